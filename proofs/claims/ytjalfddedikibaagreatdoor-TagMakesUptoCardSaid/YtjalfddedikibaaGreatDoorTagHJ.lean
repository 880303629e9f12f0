/- Contracts of tag's matter: the date of a field, the four steps. -/
import Derived.Test.YtjalfddedikibaaGreatDoorTagGJ
import Derived.Test.YtjalfddedikibaaGreatDoorStampVhJ
namespace Go.Proofs.YtjalfddedikibaaGreatDoor
open Go Go.RowKit Go.Sort
set_option maxHeartbeats 4000000

/-- the date of the values of a name, at a moment -/
def dateT (now : Int) : List Tx → Int × Bool
  | [x] => ((Stm.parseP x (isMom now) (nowY now)).m, (Stm.parseP x (isMom now) (nowY now)).e == 0)
  | _ => (0, false)
def dateR (r : Int × Bool) : Value := .tuple #[.int .i64 r.1, .bool r.2]
theorem pm_cell {w : World} {mb : Nat} {C : Array Value} (h : Blk w mb tM C) (k : Nat) {v : Value} (hk : C[k]? = some v) : w.cell? ⟨mb, k, none⟩ = some v := (h.cell k).trans hk

set_option maxRecDepth 100000 in
theorem date_any (nm : ByteArray) (mb : Nat) (rd : Bool) (v : Value) (l : List Fd) (s : Sta) (now : Int) (w : World) (hE : EnvS w) (hm : Blk w mb tM (cellsM rd v s now)) (hv : FdSl w v l) (hl : fSum l ≤ 1048576) (hn : nm.size ≤ 1048576) :
    Calls Tryz.prog 29 #[.pointer (some ⟨mb, 0, none⟩), .string nm] w fun e w' => e = .returned (dateR (dateT now (valuesF l (L nm)))) ∧ Below w.heap.size w w' := by
  have AL := Lib.hid (all_any v l nm w hv hl hn)
  have hvl := values_len l (L nm)
  have hll := fSum_len l
  obtain ⟨vs, hvs⟩ := name_it (valuesF l (L nm))
  rw [hvs.out] at AL hvl ⊢
  have hsz : ∀ x ∈ vs, x.length + 2 ≤ fSum l := by
    intro x hx
    rw [← hvs.out] at hx
    obtain ⟨k, hk, rfl⟩ := List.getElem_of_mem hx
    exact value_le l (L nm) k hk
  have hvb : vs.length ≤ 1048576 := by omega
  have p0 : w.cell? ⟨mb, 1, none⟩ = some v := pm_cell hm 1 rfl
  have HM := Lib.hid hm
  have HE := Lib.hid hE
  have hmb := hm.lt
  obtain ⟨D, HDT⟩ := name_it (dateT now vs)
  rw [HDT.out]
  clear hv hn hvs hvl hll hm hE
  go_enter Tryz.func29, Tryz.ntmps29
  go_wp2_with fail
  refine AL.out.mono ?_; rintro e w1 ⟨⟨v1, rfl, h1⟩, b1⟩
  have O1 := Lib.hid h1
  have B1 := Lib.hid b1
  have M1 := Lib.hid (HM.out.below b1 hmb)
  have E1 := Lib.hid (HE.out.next b1)
  obtain ⟨sp, sc, rfl⟩ := row_slice h1
  clear h1 b1 AL HM HE p0
  by_cases h1 : vs.length = 1
  · obtain ⟨x, rfl⟩ : ∃ x, vs = [x] := List.length_eq_one_iff.1 h1
    have hx := hsz x (by simp)
    obtain ⟨g, rfl⟩ : ∃ g, sp = some ⟨g, 0, none⟩ := by
      rcases O1.out.2 with ⟨_, h0⟩ | ⟨g, cap', cur, h, _⟩
      · simp at h0
      · injection h with h _ _; exact ⟨g, h⟩
    have c0 : w1.cell? ⟨g, 0, none⟩ = some (.string (bs x)) := (O1.out.cellAt 0 (by simp)).trans rfl
    have c1 : w1.cell? ⟨mb, 8, none⟩ = some (.int .i64 now) := pm_cell M1.out 8 rfl
    have PA := Lib.hid (parse_any (bs x) now w1.drew (E1.out.next ((Below.refl _ _).drew)) (by rw [size_bs]; omega))
    rw [L_bs] at PA
    have hg : g < w1.drew.heap.size := World.block_lt_of_cell? w1 ⟨g, 0, none⟩ c0
    have hmb1 : mb < w1.drew.heap.size := World.block_lt_of_cell? w1 ⟨mb, 8, none⟩ c1
    have e1 : ([x].length : Int) = 1 := rfl
    have HD : Hid (D = ((Stm.parseP x (isMom now) (nowY now)).m, (Stm.parseP x (isMom now) (nowY now)).e == 0)) := HDT.out.symm.trans rfl
    obtain ⟨R, hR⟩ := name_it (Stm.parseP x (isMom now) (nowY now))
    rw [hR.out] at HD PA
    unfold parseV at PA
    have B2 : Hid (Below w.heap.size w w1.drew) := B1.out.trans ((Below.refl _ _).drew)
    obtain ⟨n, hn⟩ := name_it [x].length
    rw [hn.out] at e1 ⊢
    clear hn h1 hsz HDT hR hx hvb M1 E1 O1 B1
    go_wp2_with fail
    all_goals (try (exfalso; omega))
    go_region_held3 (fun w' => w'.cell? ⟨g, 0, none⟩ = some (.string (bs x)) ∧ w'.cell? ⟨mb, 8, none⟩ = some (.int .i64 now)) (first | go_keep | exact ⟨(b2.cell (p := ⟨g, 0, none⟩) hg).trans c0, (b2.cell (p := ⟨mb, 8, none⟩) hmb1).trans c1⟩) ((go_at_call 54; refine PA.out.mono ?_; rintro e w2 ⟨rfl, b2⟩))
    all_goals
      have B3 := Lib.hid (B2.out.trans (b2.mono B2.out.size))
      clear b2 c0 c1
      go_wp2_with fail
      go_ret2
      exact ⟨by rw [HD.out]; rfl, B3.out⟩
  · have e1 : ((vs.length : Int) == 1) = false := by rw [beq_eq_false_iff_ne]; omega
    have HD : Hid (D = (0, false)) := HDT.out.symm.trans <| by
      rcases vs with _ | ⟨a, _ | ⟨b, r⟩⟩
      · rfl
      · simp at h1
      · rfl
    obtain ⟨n, hn⟩ := name_it vs.length
    rw [hn.out] at e1 h1 ⊢
    have h2 : (n : Int) ≠ 1 := by omega
    clear hn HDT
    go_wp2_with fail
    all_goals (try (exfalso; omega))
    go_ret2
    exact ⟨by rw [HD.out]; rfl, B1.out⟩
end Go.Proofs.YtjalfddedikibaaGreatDoor
