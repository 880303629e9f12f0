/- Books of ledger: is an entry wanted. -/
import Derived.Test.YtfgaiopkclogmaaGreatDoorLedgCcJ
import Derived.Test.YtfgaiopkclogmaaGreatDoorLedgPaJ
namespace Go.Proofs.YtfgaiopkclogmaaGreatDoor
open Go Go.RowKit
set_option maxHeartbeats 4000000

/-- a filter -/
structure Fi where
  name : List UInt8
  meth : List UInt8
  path : List UInt8
  least : Int
  most : Int
def cellsF (f : Fi) : Array Value := #[.string (bs f.name), .string (bs f.meth), .string (bs f.path), .int .i64 f.least, .int .i64 f.most]
def encF (f : Fi) : Value := .agg (cellsF f)
def namedB (e : En) (f : Fi) : Bool := (decide (f.name = []) || decide (e.name = f.name)) && (decide (f.meth = []) || decide (e.meth = f.meth))
def underB (e : En) (f : Fi) : Bool := (decide (f.path = []) || decide (pathL e.tgt = f.path)) || Lib.hasPrefix (pathL e.tgt) (f.path ++ [47])
def statB (e : En) (f : Fi) : Bool := decide (f.least ≤ e.stat) && (decide (f.most ≤ 0) || decide (e.stat ≤ f.most))
def wantB (e : En) (f : Fi) : Bool := (namedB e f && underB e f) && statB e f
theorem bs_eq {a b : List UInt8} : (bs a = bs b) ↔ a = b := ⟨fun h => by rw [← L_bs a, ← L_bs b, h], fun h => by rw [h]⟩

set_option maxRecDepth 100000 in
theorem wanted_any (e : En) (f : Fi) (w : World) (hE : EnvZ w) (h3 : e.tgt.length ≤ 1048576) (h4 : f.path.length ≤ 1048576) :
    Calls Tryz.prog 36 #[encE e, encF f] w fun x w' => x = .returned (.bool (wantB e f)) ∧ Below w.heap.size w w' := by
  have HP := fun wx hx => path_any (bs e.tgt) wx hx (by rw [size_bs]; omega)
  rw [L_bs] at HP
  have HPX := fun wx => Tryz.strings_HasPrefix (bs (pathL e.tgt)) (bs f.path ++ ⟨#[47]⟩) wx
  have hpl : Lib.hasPrefix (bs (pathL e.tgt)).data.toList (bs f.path ++ ⟨#[47]⟩).data.toList = Lib.hasPrefix (pathL e.tgt) (f.path ++ [47]) := by
    rw [ByteArray.data_append, Array.toList_append]; rfl
  rw [hpl] at HPX
  obtain ⟨V, hV⟩ := name_it (wantB e f)
  rw [hV.out]
  unfold wantB namedB underB statB at hV
  have B0 := Lib.hid (((Below.refl w.heap.size w).alloc (Nat.le_refl _) (.cells (cellsE e) tE)).alloc (by show _ ≤ (w.heap.push _).size; rw [Array.size_push]; omega) (.cells (cellsF f) 40))
  have E0 := Lib.hid (hE.next B0.out)
  clear hE
  obtain ⟨hp, hhp⟩ := name_it (Lib.hasPrefix (pathL e.tgt) (f.path ++ [47]))
  rw [hhp.out] at hV HPX
  obtain ⟨P, hP⟩ := name_it (bs (pathL e.tgt))
  have s1 : decide (f.name = []) = (bs f.name).toList.isEmpty := by rw [toList_L, L_bs, Bool.eq_iff_iff, decide_eq_true_eq, List.isEmpty_iff]
  have s2 : decide (e.name = f.name) = decide ((bs (e.name)).toList = (bs f.name).toList) := by rw [toList_L, toList_L, L_bs, L_bs]
  have s3 : decide (f.meth = []) = (bs f.meth).toList.isEmpty := by rw [toList_L, L_bs, Bool.eq_iff_iff, decide_eq_true_eq, List.isEmpty_iff]
  have s4 : decide (e.meth = f.meth) = decide ((bs (e.meth)).toList = (bs f.meth).toList) := by rw [toList_L, toList_L, L_bs, L_bs]
  have s5 : decide (f.path = []) = (bs f.path).toList.isEmpty := by rw [toList_L, L_bs, Bool.eq_iff_iff, decide_eq_true_eq, List.isEmpty_iff]
  have s6 : decide (pathL e.tgt = f.path) = decide ((bs (pathL e.tgt)).toList = (bs f.path).toList) := by rw [toList_L, toList_L, L_bs, L_bs]
  rw [s1, s2, s3, s4, s5, s6] at hV
  have zf : ¬ 9223372036854775807 < (bs f.path).size + 1 := by rw [size_bs]; omega
  clear s1 s2 s3 s4 s5 s6 hhp hpl h3 h4
  obtain ⟨nm, hnm⟩ := name_it (bs e.name)
  obtain ⟨mt, hmt⟩ := name_it (bs e.meth)
  obtain ⟨tg, htg⟩ := name_it (bs e.tgt)
  obtain ⟨fn, hfn⟩ := name_it (bs f.name)
  obtain ⟨fm, hfm⟩ := name_it (bs f.meth)
  obtain ⟨fp, hfp⟩ := name_it (bs f.path)
  obtain ⟨fl, hfl⟩ := name_it f.least
  obtain ⟨fo, hfo⟩ := name_it f.most
  obtain ⟨x4, hx4⟩ := name_it e.stat
  unfold encE encF cellsF
  unfold cellsE cellsF at B0 E0
  rw [hP.out, hnm.out, hmt.out, hfn.out, hfm.out, hfp.out, hfl.out, hfo.out, hx4.out] at hV
  rw [hP.out, hfp.out] at HPX
  rw [hP.out, htg.out] at HP
  rw [hfp.out] at zf
  rw [hnm.out, hmt.out, htg.out, hfn.out, hfm.out, hfp.out, hfl.out, hfo.out, hx4.out] at B0 E0 ⊢
  clear hP hnm hmt htg hfn hfm hfp hfl hfo hx4
  replace HP := Lib.hid HP
  replace HPX := Lib.hid HPX
  go_enter Tryz.func36, Tryz.ntmps36
  go_wp2_with fail
  refine (HP.out _ E0.out).mono ?_; rintro x w2 ⟨rfl, b2⟩
  have A2 : Hid (Blk w2 w.heap.size tE #[.string nm, .int .i64 e.conn, .int .i64 e.numb, .string mt, .string tg, .int .i64 x4, .int .i64 e.byts, .int .i64 e.tick]) := ((Blk.new w tE _).alloc _).below b2 (by show w.heap.size < ((w.heap.push _).push _).size; rw [Array.size_push, Array.size_push]; omega)
  have K1 : Blk ((w.alloc (.cells #[.string nm, .int .i64 e.conn, .int .i64 e.numb, .string mt, .string tg, .int .i64 x4, .int .i64 e.byts, .int .i64 e.tick] tE)).alloc (.cells #[.string fn, .string fm, .string fp, .int .i64 fl, .int .i64 fo] 40)) (w.heap.size + 1) 40 #[.string fn, .string fm, .string fp, .int .i64 fl, .int .i64 fo] := by
    have := Blk.new (w.alloc (.cells #[.string nm, .int .i64 e.conn, .int .i64 e.numb, .string mt, .string tg, .int .i64 x4, .int .i64 e.byts, .int .i64 e.tick] tE)) 40 #[.string fn, .string fm, .string fp, .int .i64 fl, .int .i64 fo]
    rw [show (w.alloc (.cells #[.string nm, .int .i64 e.conn, .int .i64 e.numb, .string mt, .string tg, .int .i64 x4, .int .i64 e.byts, .int .i64 e.tick] tE)).heap.size = w.heap.size + 1 from Array.size_push ..] at this
    exact this
  have A3 := Lib.hid (K1.below b2 K1.lt)
  have D2 := Lib.hid (B0.out.trans (b2.mono B0.out.size))
  clear b2 K1 B0 E0 HP
  have c0 : w2.cell? ⟨w.heap.size, 0, none⟩ = some (.string nm) := A2.out.cell 0
  have c3 : w2.cell? ⟨w.heap.size, 3, none⟩ = some (.string mt) := A2.out.cell 3
  have c5 : w2.cell? ⟨w.heap.size, 5, none⟩ = some (.int .i64 x4) := A2.out.cell 5
  have f0 : w2.cell? ⟨w.heap.size + 1, 0, none⟩ = some (.string fn) := A3.out.cell 0
  have f1 : w2.cell? ⟨w.heap.size + 1, 1, none⟩ = some (.string fm) := A3.out.cell 1
  have f2 : w2.cell? ⟨w.heap.size + 1, 2, none⟩ = some (.string fp) := A3.out.cell 2
  have f3 : w2.cell? ⟨w.heap.size + 1, 3, none⟩ = some (.int .i64 fl) := A3.out.cell 3
  have f4 : w2.cell? ⟨w.heap.size + 1, 4, none⟩ = some (.int .i64 fo) := A3.out.cell 4
  go_wp2_with (go_at_call 63; refine (HPX.out _).mono ?_; rintro x w3 ⟨rfl, rfl⟩)
  all_goals (try (exfalso; omega))
  all_goals go_ret
  all_goals exact ⟨ret_bool (by rw [← hV.out]; simp [*] <;> omega), D2.out⟩
end Go.Proofs.YtfgaiopkclogmaaGreatDoor
