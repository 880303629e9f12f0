/- TagParses, TagLists: the walks of the laws. TagPrints: the walk of the law. TagApart, plain and its loop's parts: which fields are kept, that they decide alike. TagApart: the walk of the law. -/
import Derived.Test.YtjalfddedikibaaGreatDoorTagWJ
import Derived.Test.YtjalfddedikibaaGreatDoorTagVJ
import Derived.Test.YtjalfddedikibaaGreatDoorTagEJ
import Derived.Test.YtjalfddedikibaaGreatDoorMd
import Derived.Test.YtjalfddedikibaaGreatDoorTagLJ
import Derived.Deep.RegionLaw
namespace Go.Proofs.YtjalfddedikibaaGreatDoor
open Go Go.RowKit Go.Sort
set_option maxHeartbeats 4000000

end Go.Proofs.YtjalfddedikibaaGreatDoor
namespace Go.Proofs.YtjalfddedikibaaGreatDoor
open Go Go.RowKit Go.Sort
set_option maxHeartbeats 8000000

theorem refG (b : Bool) (X : ByteArray) (w : World) : Calls Tryz.prog 15 #[.agg #[.bool b, .string X]] w fun e w' => e = .returned (.agg #[.bool b, .string X]) ∧ ∃ q os, w' = Sort.grow (w.drewN q) os := ref_any (b, L X) w
theorem strongG (b c : Bool) (X Y : ByteArray) (w : World) : Calls Tryz.prog 28 #[.agg #[.bool b, .string X], .agg #[.bool c, .string Y]] w fun e w' => e = .returned (.bool (strongT (b, L X) (c, L Y))) ∧ ∃ q os, w' = Sort.grow (w.drewN q) os := strong_any (b, L X) (c, L Y) w
theorem rstrongG (b c : Bool) (X Y : ByteArray) (w : World) : Calls Tryz.prog 33 #[.agg #[.bool b, .string X], .agg #[.bool c, .string Y]] w fun e w' => e = .returned (.bool (strongT (b, L X) (c, L Y))) ∧ ∃ q os, w' = Sort.grow (w.drewN q) os := rstrong_any (b, L X) (c, L Y) w
theorem alikeG (b c : Bool) (X Y : ByteArray) (w : World) : Calls Tryz.prog 48 #[.agg #[.bool b, .string X], .agg #[.bool c, .string Y]] w fun e w' => e = .returned (.bool (alikeT (b, L X) (c, L Y))) ∧ ∃ q os, w' = Sort.grow (w.drewN q) os := alike_any (b, L X) (c, L Y) w
theorem ralikeG (b c : Bool) (X Y : ByteArray) (w : World) : Calls Tryz.prog 50 #[.agg #[.bool b, .string X], .agg #[.bool c, .string Y]] w fun e w' => e = .returned (.bool (alikeT (b, L X) (c, L Y))) ∧ ∃ q os, w' = Sort.grow (w.drewN q) os := ralike_any (b, L X) (c, L Y) w

end Go.Proofs.YtjalfddedikibaaGreatDoor
namespace Go.Proofs.YtjalfddedikibaaGreatDoor
open Go Go.RowKit
set_option maxHeartbeats 4000000

theorem lowerB_idem (c : UInt8) : lowerB (lowerB c) = lowerB c := by
  unfold lowerB
  by_cases h : 65 ≤ c.toNat ∧ c.toNat ≤ 90
  · rw [if_pos h, if_neg]
    rw [u8_up h.1 h.2]; omega
  · rw [if_neg h, if_neg h]
theorem lower_idem (l : List UInt8) : lower (lower l) = lower l := by unfold lower; rw [List.map_map]; exact List.map_congr_left fun c _ => lowerB_idem c
/-- one of the four names -/
def mineB (nm : Tx) : Bool := decide (lower nm = lower nmIM) || (decide (lower nm = lower nmIN) || (decide (lower nm = lower nmIU) || decide (lower nm = lower nmID)))
def fewL (l : List Fd) : List Fd := (l.filter fun f => mineB f.1).map fun f => (lower f.1, f.2)
theorem few_take (l : List Fd) (k : Nat) (h : k < l.length) : fewL (l.take (k + 1)) = if mineB l[k].1 = true then fewL (l.take k) ++ [(lower l[k].1, l[k].2)] else fewL (l.take k) := by
  unfold fewL
  rw [List.take_succ_eq_append_getElem h, List.filter_append, List.map_append]
  by_cases he : mineB l[k].1 = true
  · rw [if_pos he, List.filter_cons_of_pos (by simpa using he)]; rfl
  · rw [if_neg he, List.filter_cons_of_neg (by simpa using he)]; simp
theorem few_len (l : List Fd) : (fewL l).length ≤ l.length := by unfold fewL; rw [List.length_map]; exact List.length_filter_le _ _
theorem few_sum (l : List Fd) : fSum (fewL l) ≤ fSum l := by
  induction l with
  | nil => exact Nat.le_refl _
  | cons f l ih =>
    unfold fewL fSum at ih ⊢
    by_cases he : mineB f.1 = true
    · rw [List.filter_cons_of_pos (by simpa using he), List.map_cons, List.map_cons, List.map_cons, List.sum_cons, List.sum_cons]; simp only [lower_length]; omega
    · rw [List.filter_cons_of_neg (by simpa using he), List.map_cons, List.sum_cons]; omega
theorem few_values (l : List Fd) (nm : Tx) (h : ∀ x : Tx, lower x = lower nm → mineB x = true) : valuesF (fewL l) nm = valuesF l nm := by
  induction l with
  | nil => rfl
  | cons f l ih =>
    unfold fewL valuesF at ih ⊢
    by_cases he : lower f.1 = lower nm
    · have hm := h f.1 he
      rw [List.filter_cons_of_pos (by simpa using hm), List.map_cons, List.filter_cons_of_pos (by simpa [lower_idem] using he), List.filter_cons_of_pos (by simpa using he), List.map_cons, List.map_cons, ih]
    · by_cases hm : mineB f.1 = true
      · rw [List.filter_cons_of_pos (by simpa using hm), List.map_cons, List.filter_cons_of_neg (by simpa [lower_idem] using he), List.filter_cons_of_neg (by simpa using he), ih]
      · rw [List.filter_cons_of_neg (by simpa using hm), List.filter_cons_of_neg (by simpa using he), ih]
theorem few_decide (rd : Bool) (s : Sta) (now : Int) (l : List Fd) : decideT rd s now (fewL l) = decideT rd s now l :=
  decide_of (few_values l nmIM fun x h => by unfold mineB; simp [h]) (few_values l nmIN fun x h => by unfold mineB; simp [h]) (few_values l nmIU fun x h => by unfold mineB; simp [h]) (few_values l nmID fun x h => by unfold mineB; simp [h])
theorem few_nil (rd : Bool) (s : Sta) (now : Int) (l : List Fd) (h : fewL l = []) : decideT rd s now l = 0 := by
  rw [← few_decide, h]; exact decide_nil _ _ _ _ rfl rfl rfl rfl

end Go.Proofs.YtjalfddedikibaaGreatDoor
namespace Go.Proofs.YtjalfddedikibaaGreatDoor
open Go Go.RowKit
set_option maxHeartbeats 8000000

abbrev tAsk : TypeId := 24
/-- what the law has laid: what was asked, what the resource is -/
structure AP (w W : World) (m1 m2 : Nat) (M : ByteArray) (va : Value) (l : List Fd) (s : Sta) (now : Int) : Prop where
  env : EnvS W
  ask : Blk W m1 tAsk #[.string M, va, .int .i64 now]
  sta : Blk W m2 tSt (stateC s)
  fd : FdSl W va l
  below : Below w.heap.size w W
theorem AP.next {w W W' : World} {m1 m2 : Nat} {M : ByteArray} {va : Value} {l : List Fd} {s : Sta} {now : Int} (h : AP w W m1 m2 M va l s now) (hb : Below W.heap.size W W') : AP w W' m1 m2 M va l s now :=
  ⟨h.env.next hb, h.ask.below hb h.ask.lt, h.sta.below hb h.sta.lt, h.fd.next hb, h.below.trans (hb.mono h.below.size)⟩
abbrev APc (m1 m2 : Nat) (M : ByteArray) (va : Value) (s : Sta) (now : Int) (X : ByteArray) (W : World) : Prop :=
  W.cell? ⟨m1, 0, none⟩ = some (.string M) ∧ W.cell? ⟨m1, 1, none⟩ = some va ∧ W.cell? ⟨m1, 2, none⟩ = some (.int .i64 now) ∧ W.cell? ⟨m2, 0, none⟩ = some (.bool s.there) ∧ W.cell? ⟨m2, 1, none⟩ = some (.bool s.tag.1) ∧ W.cell? ⟨m2, 2, none⟩ = some (.string X) ∧ W.cell? ⟨m2, 3, none⟩ = some (.bool s.tagged) ∧ W.cell? ⟨m2, 4, none⟩ = some (.int .i64 s.time) ∧ W.cell? ⟨m2, 5, none⟩ = some (.bool s.timed)
theorem AP.cells {w W : World} {m1 m2 : Nat} {M : ByteArray} {va : Value} {l : List Fd} {s : Sta} {now : Int} (h : AP w W m1 m2 M va l s now) : APc m1 m2 M va s now (bs s.tag.2) W :=
  ⟨h.ask.cell 0, h.ask.cell 1, h.ask.cell 2, h.sta.cell 0, h.sta.cell 1, h.sta.cell 2, h.sta.cell 3, h.sta.cell 4, h.sta.cell 5⟩
theorem AP.first {w : World} {M : ByteArray} {va : Value} {l : List Fd} {s : Sta} {now : Int} (hE : EnvS w) (hv : FdSl w va l) :
    AP w ((w.alloc (.cells #[.string M, va, .int .i64 now] tAsk)).alloc (.cells (stateC s) tSt)) w.heap.size (w.heap.size + 1) M va l s now := by
  have z1 : (w.alloc (.cells #[.string M, va, .int .i64 now] tAsk)).heap.size = w.heap.size + 1 := Array.size_push ..
  have hb : Below w.heap.size w ((w.alloc (.cells #[.string M, va, .int .i64 now] tAsk)).alloc (.cells (stateC s) tSt)) := bel2 w _ _
  have h2 := Blk.new (w.alloc (.cells #[.string M, va, .int .i64 now] tAsk)) tSt (stateC s)
  rw [z1] at h2
  exact ⟨hE.next hb, (Blk.new w tAsk _).alloc _, h2, hv.next hb, hb⟩
theorem own_none2 (w : World) (base : Nat) (e : TypeId) (hb : base ≤ w.heap.size) : (w.alloc (.cells #[] e)).ownsRow base e 2 (.slice (some ⟨w.heap.size, 0, none⟩) 0 0) 0 [] := World.ownsRow_lit w #[] 0 hb (by unfold maxLen; omega) rfl

end Go.Proofs.YtjalfddedikibaaGreatDoor
