/- Contract of ledger's Print: an entry's line. -/
import Derived.Test.YtfgaiopkclogmaaGreatDoorLedgYJ
import Derived.Test.YtfgaiopkclogmaaGreatDoorMk
import Derived.Test.YtfgaiopkclogmaaGreatDoorLedgVJ
import Derived.Test.YtfgaiopkclogmaaGreatDoorMb
import Derived.Deep.RegionHeld3
namespace Go.Proofs.YtfgaiopkclogmaaGreatDoor
open Go Go.RowKit
set_option maxHeartbeats 4000000

abbrev tV : TypeId := 30
def cellsV (e : En) : Array Value := #[.int .i64 e.conn, .int .i64 e.numb, .string (bs e.meth), .string (bs e.tgt), .int .i64 e.stat, .int .i64 e.byts, .int .i64 e.tick]
/-- the call's own entry and visit -/
structure PW (w W : World) (e : En) (m : Nat) : Prop where
  box : Blk W w.heap.size tE (cellsE e)
  vis : Blk W m tV (cellsV e)
  env : EnvL W
  below : Below w.heap.size w W
theorem PW.next {w W W' : World} {e : En} {m : Nat} (h : PW w W e m) (hb : Below W.heap.size W W') : PW w W' e m :=
  ⟨h.box.below hb h.box.lt, h.vis.below hb h.vis.lt, h.env.next hb, h.below.trans (hb.mono h.below.size)⟩
theorem dig_pw {n : Int} {x : List UInt8} {w W : World} {e : En} {m : Nat} (hx : Lib.itoa n = x) (h0 : -9223372036854775808 ≤ n) (h1 : n ≤ 9223372036854775807) (h : PW w W e m) :
    Calls Tryz.prog 72 #[.int .i64 n] W fun r w' => r = .returned (.string (bs x)) ∧ PW w w' e m := by
  subst hx
  refine (ldigits_any n W h.env h0 h1).mono ?_
  rintro r w2 ⟨rfl, hb⟩
  exact ⟨rfl, h.next hb⟩
/-- an entry whose numbers are ints -/
def intsE (e : En) : Prop := (-9223372036854775808 ≤ e.conn ∧ e.conn ≤ 9223372036854775807) ∧ (-9223372036854775808 ≤ e.numb ∧ e.numb ≤ 9223372036854775807) ∧ (-9223372036854775808 ≤ e.tick ∧ e.tick ≤ 9223372036854775807) ∧ (-9223372036854775808 ≤ e.stat ∧ e.stat ≤ 9223372036854775807) ∧ (-9223372036854775808 ≤ e.byts ∧ e.byts ≤ 9223372036854775807)
def printV (e : En) : Value := if rightE e = true then .tuple #[.string (bs (printL e)), .int .i64 0] else .tuple #[.string ⟨#[]⟩, .int .i64 280]
theorem tgt_fld {l : List UInt8} (h : l.all tgtB = true) : l.all isFld = true := by
  rw [List.all_eq_true] at h ⊢
  intro c hc
  have := of_decide_eq_true (show decide (33 ≤ c.toNat ∧ c.toNat ≤ 126) = true from h c hc)
  have hh : ∀ p : Fin 256, 33 ≤ p.val ∧ p.val ≤ 126 → isFld (UInt8.ofNat p.val) = true := by decide +kernel
  have h2 := hh ⟨c.toNat, c.toNat_lt⟩ this
  rw [show UInt8.ofNat (Fin.val (⟨c.toNat, c.toNat_lt⟩ : Fin 256)) = c from UInt8.ofNat_toNat] at h2
  exact h2

theorem join_cells (w : World) (xs : List ByteArray) (T : TypeId) (j : Nat) (x : ByteArray) (h : xs[j]? = some x) : (w.alloc (.cells (xs.map Value.string).toArray T)).cell? ⟨w.heap.size, 0 + j, none⟩ = some (.string x) := by
  rw [Nat.zero_add]
  refine (World.cell?_alloc_mark w _ T (0, 0) j).trans ?_
  rw [List.getElem?_toArray, List.getElem?_map, h]; rfl
theorem join_line (nm mt qt d1 d2 d3 d4 d5 : List UInt8) : Lib.join (([bs nm, ⟨#[99, 111, 110, 110, 61]⟩ ++ bs d1, ⟨#[110, 117, 109, 98, 101, 114, 61]⟩ ++ bs d2, ⟨#[116, 105, 99, 107, 61]⟩ ++ bs d3, bs mt, bs qt, bs d4, bs d5] : List ByteArray).map (·.data.toList)) [32] =
    nm ++ (conL ++ (d1 ++ (numbL ++ (d2 ++ (tickL ++ (d3 ++ ([32] ++ (mt ++ ([32] ++ (qt ++ ([32] ++ (d4 ++ ([32] ++ d5))))))))))))) := by
  simp [Lib.join, List.intercalate, bs, ByteArray.data_append, conL, numbL, tickL]
set_option maxRecDepth 100000 in
theorem print_any (e : En) (w : World) (hE : EnvL w) (hi : intsE e) (h1 : e.name.length ≤ 1048576) (h2 : e.meth.length ≤ 1048576) (h3 : e.tgt.length ≤ 1048576) :
    Calls Tryz.prog 43 #[encE e] w fun x w' => x = .returned (printV e) ∧ Below w.heap.size w w' := by
  obtain ⟨V, hV⟩ := name_it (printV e)
  rw [hV.out]
  have NR := Lib.hid (fun wx hx => right_any e wx hx (by omega) (by omega) (by omega))
  have NQ := fun (hf : e.tgt.all isFld = true) wx => quote_any (bs e.tgt) wx (by rw [size_bs]; omega) (by rw [L_bs]; exact hf)
  rw [L_bs] at NQ
  have b0 := (Below.refl w.heap.size w).alloc (Nat.le_refl _) (.cells (cellsE e) tE)
  have K0 := Lib.hid (Blk.new w tE (cellsE e))
  have E0 := Lib.hid (hE.alloc (.cells (cellsE e) tE))
  have B0 := Lib.hid b0
  clear hE b0
  cases hr : rightE e with
  | false =>
    have hv : Hid (V = .tuple #[.string ⟨#[]⟩, .int .i64 280]) := by rw [← hV.out]; unfold printV Hid; rw [hr]; rfl
    rw [hr] at NR
    clear hV NQ
    unfold encE at NR ⊢
    unfold cellsE at B0 E0 K0
    go_enter Tryz.func43, Tryz.ntmps43
    go_wp2_with fail
    refine (NR.out _ E0.out.env).mono ?_; rintro x wa ⟨rfl, ba⟩
    have d1 := B0.out.trans (ba.mono B0.out.size)
    go_wp2_with fail
    go_ret2
    exact ⟨by rw [hv.out]; rfl, d1⟩
  | true =>
    have hv : Hid (V = .tuple #[.string (bs (printL e)), .int .i64 0]) := by rw [← hV.out]; unfold printV Hid; rw [hr]; rfl
    obtain ⟨hn, _, _, hT⟩ := rightE_facts hr
    have NQ := Lib.hid (NQ (tgt_fld hT.1))
    rw [hr] at NR
    clear hV hT hr
    have hvp := hv.out
    unfold printL at hvp
    have l1 := Lib.itoa_length_le e.conn hi.1.1 hi.1.2
    have l2 := Lib.itoa_length_le e.numb hi.2.1.1 hi.2.1.2
    have l3 := Lib.itoa_length_le e.tick hi.2.2.1.1 hi.2.2.1.2
    have l4 := Lib.itoa_length_le e.stat hi.2.2.2.1.1 hi.2.2.2.1.2
    have l5 := Lib.itoa_length_le e.byts hi.2.2.2.2.1 hi.2.2.2.2.2
    have hq : (quoteL e.tgt).length ≤ 2097154 := by
      have := esc_len e.tgt
      unfold quoteL; rw [List.length_append, List.length_append]; show 1 + _ + 1 ≤ _; omega
    obtain ⟨d1, hd1⟩ := name_it (Lib.itoa e.conn)
    obtain ⟨d2, hd2⟩ := name_it (Lib.itoa e.numb)
    obtain ⟨d3, hd3⟩ := name_it (Lib.itoa e.tick)
    obtain ⟨d4, hd4⟩ := name_it (Lib.itoa e.stat)
    obtain ⟨d5, hd5⟩ := name_it (Lib.itoa e.byts)
    obtain ⟨qt, hqt⟩ := name_it (quoteL e.tgt)
    rw [hd1.out] at l1 hvp
    rw [hd2.out] at l2 hvp
    rw [hd3.out] at l3 hvp
    rw [hd4.out] at l4 hvp
    rw [hd5.out] at l5 hvp
    rw [hqt.out] at hq NQ hvp
    have HVP := Lib.hid hvp
    clear hv hvp hqt
    have HI := Lib.hid hi
    have HN := Lib.hid hn
    have HL := Lib.hid (And.intro l1 (And.intro l2 (And.intro l3 (And.intro l4 (And.intro l5 (And.intro hq (And.intro h1 (And.intro h2 h3))))))))
    clear hi hn l1 l2 l3 l4 l5 hq h1 h2 h3
    have KV := Lib.hid (fun (W : World) => Blk.new W tV (cellsV e))
    unfold encE at NR ⊢
    have K0' := K0
    unfold cellsE at B0 E0 K0
    unfold cellsV at KV
    go_enter Tryz.func43, Tryz.ntmps43
    go_wp2_with fail
    refine (NR.out _ E0.out.env).mono ?_; rintro x wa ⟨rfl, ba⟩
    have B1 := Lib.hid (B0.out.trans (ba.mono B0.out.size))
    have E1 := Lib.hid (E0.out.next ba)
    have K1 := Lib.hid (K0'.out.below ba K0'.out.lt)
    clear ba B0 E0 K0 K0' NR
    have c0 : wa.cell? ⟨w.heap.size, 0, none⟩ = some (.string (bs e.name)) := K1.out.cell 0
    have c1 : wa.cell? ⟨w.heap.size, 1, none⟩ = some (.int .i64 e.conn) := K1.out.cell 1
    have c2 : wa.cell? ⟨w.heap.size, 2, none⟩ = some (.int .i64 e.numb) := K1.out.cell 2
    have c3 : wa.cell? ⟨w.heap.size, 3, none⟩ = some (.string (bs e.meth)) := K1.out.cell 3
    have c4 : wa.cell? ⟨w.heap.size, 4, none⟩ = some (.string (bs e.tgt)) := K1.out.cell 4
    have c5 : wa.cell? ⟨w.heap.size, 5, none⟩ = some (.int .i64 e.stat) := K1.out.cell 5
    have c6 : wa.cell? ⟨w.heap.size, 6, none⟩ = some (.int .i64 e.byts) := K1.out.cell 6
    have c7 : wa.cell? ⟨w.heap.size, 7, none⟩ = some (.int .i64 e.tick) := K1.out.cell 7
    have P1 : Hid (PW w (wa.alloc (.cells (cellsV e) tV)) e wa.heap.size) := ⟨K1.out.alloc _, KV.out wa, E1.out.alloc _, B1.out.alloc B1.out.size _⟩
    unfold cellsV at P1
    go_wp2_with fail
    refine (NQ.out _).mono ?_; rintro x wb ⟨rfl, bq⟩
    have P2 := Lib.hid (P1.out.next bq)
    clear bq P1 c0 c1 c2 c3 c4 c5 c6 c7 KV K1 E1 B1 NQ
    obtain ⟨m, hm⟩ := name_it wa.heap.size
    rw [hm.out] at P2
    rw [hm.out]
    clear hm
    go_wp2_with fail
    have P3 := Lib.hid (P2.out.next (Below.refl _ _).drew)
    obtain ⟨l1, l2, l3, l4, l5, hq, h1, h2, h3⟩ := HL.out
    have s1 : ¬ 9223372036854775807 < 5 + (bs d1).size := by rw [size_bs]; omega
    have s2 : ¬ 9223372036854775807 < 7 + (bs d2).size := by rw [size_bs]; omega
    have s3 : ¬ 9223372036854775807 < 5 + (bs d3).size := by rw [size_bs]; omega
    obtain ⟨⟨i1, i2⟩, ⟨i3, i4⟩, ⟨i5, i6⟩, ⟨i7, i8⟩, ⟨i9, i10⟩⟩ := HI.out
    clear HI l1 l2 l3 l4 l5 hq h1 h2 h3
    go_region_held3 (fun w' => w'.cell? ⟨w.heap.size, 0, none⟩ = some (.string (bs e.name)) ∧ w'.cell? ⟨m, 0, none⟩ = some (.int .i64 e.conn) ∧ w'.cell? ⟨m, 1, none⟩ = some (.int .i64 e.numb) ∧ w'.cell? ⟨m, 2, none⟩ = some (.string (bs e.meth)) ∧ w'.cell? ⟨m, 4, none⟩ = some (.int .i64 e.stat) ∧ w'.cell? ⟨m, 5, none⟩ = some (.int .i64 e.byts) ∧ w'.cell? ⟨m, 6, none⟩ = some (.int .i64 e.tick) ∧ Hid (PW w w' e m))
      (first | exact ⟨P3.out.box.cell 0, P3.out.vis.cell 0, P3.out.vis.cell 1, P3.out.vis.cell 2, P3.out.vis.cell 4, P3.out.vis.cell 5, P3.out.vis.cell 6, P3⟩ | exact ⟨P4.out.box.cell 0, P4.out.vis.cell 0, P4.out.vis.cell 1, P4.out.vis.cell 2, P4.out.vis.cell 4, P4.out.vis.cell 5, P4.out.vis.cell 6, P4⟩ | exact ⟨(P4.out.next ((Below.refl _ _).alloc (Nat.le_refl _) _)).box.cell 0, (P4.out.next ((Below.refl _ _).alloc (Nat.le_refl _) _)).vis.cell 0, (P4.out.next ((Below.refl _ _).alloc (Nat.le_refl _) _)).vis.cell 1, (P4.out.next ((Below.refl _ _).alloc (Nat.le_refl _) _)).vis.cell 2, (P4.out.next ((Below.refl _ _).alloc (Nat.le_refl _) _)).vis.cell 4, (P4.out.next ((Below.refl _ _).alloc (Nat.le_refl _) _)).vis.cell 5, (P4.out.next ((Below.refl _ _).alloc (Nat.le_refl _) _)).vis.cell 6, Lib.hid (P4.out.next ((Below.refl _ _).alloc (Nat.le_refl _) _))⟩ | go_keep)
      (first | (go_at_call 72; refine (dig_pw (by first | exact hd1.out | exact hd2.out | exact hd3.out | exact hd4.out | exact hd5.out) (by assumption) (by assumption) (by first | exact P3.out | exact Hid.out (by assumption))).mono ?_; rintro e w' ⟨rfl, P4⟩; have P4 := Lib.hid P4))
    all_goals (try (exfalso; omega))
    go_wp2_with fail
    have hjl := join_line e.name e.meth qt d1 d2 d3 d4 d5
    obtain ⟨J, hJ⟩ := name_it (e.name ++ (conL ++ (d1 ++ (numbL ++ (d2 ++ (tickL ++ (d3 ++ ([32] ++ (e.meth ++ ([32] ++ (qt ++ ([32] ++ (d4 ++ ([32] ++ d5))))))))))))))
    have hv := HVP.out
    rw [hJ.out] at hjl hv
    have hJl : J.length ≤ 140737488355328 := by
      obtain ⟨l1, l2, l3, l4, l5, hq, h1, h2, h3⟩ := HL.out
      rw [← hJ.out]
      simp only [List.length_append, conL, numbL, tickL, List.length_cons, List.length_nil]
      omega
    have HJL := Lib.hid hjl
    have HVV := Lib.hid hv
    clear hjl hv HVP
    have b4 := P4.out.below
    have PJ := Tryz.strings_Join w'.heap.size 0 8 [bs e.name, ⟨#[99, 111, 110, 110, 61]⟩ ++ bs d1, ⟨#[110, 117, 109, 98, 101, 114, 61]⟩ ++ bs d2, ⟨#[116, 105, 99, 107, 61]⟩ ++ bs d3, bs e.meth, bs qt, bs d4, bs d5] ⟨#[32]⟩ _ (join_cells w' [bs e.name, ⟨#[99, 111, 110, 110, 61]⟩ ++ bs d1, ⟨#[110, 117, 109, 98, 101, 114, 61]⟩ ++ bs d2, ⟨#[116, 105, 99, 107, 61]⟩ ++ bs d3, bs e.meth, bs qt, bs d4, bs d5] 9) (by show w'.heap.size < (w'.heap.push _).size; rw [Array.size_push]; omega) (by show 8 ≤ _; decide) (by show 8 ≤ 8; decide) (by rw [show (⟨#[32]⟩ : ByteArray).data.toList = [32] from rfl, HJL.out]; exact hJl)
    rw [show (⟨#[32]⟩ : ByteArray).data.toList = [32] from rfl, HJL.out] at PJ
    have PJ := Lib.hid PJ
    clear hJl
    refine PJ.out.mono ?_
    rintro x wz ⟨rfl, bz⟩
    have dz := (b4.alloc b4.size _).trans (bz.mono (b4.alloc b4.size _).size)
    clear bz b4
    go_wp2_with fail
    go_ret2
    exact ⟨by rw [HVV.out]; rfl, dz⟩
end Go.Proofs.YtfgaiopkclogmaaGreatDoor
