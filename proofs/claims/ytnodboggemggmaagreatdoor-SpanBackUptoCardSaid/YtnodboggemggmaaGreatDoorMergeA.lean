/- Spans sorted: the closure that compares, slices.SortFunc at a row of spans; a copy of a list of spans. -/
import Derived.Test.YtnodboggemggmaaGreatDoorSortLay
import Derived.Test.YtnodboggemggmaaGreatDoorSpanG
import Derived.Test.YtnodboggemggmaaGreatDoorMergeP
import Derived.Laws.CopyRow
namespace Go.Proofs.YtnodboggemggmaaGreatDoor
open Go Go.RowKit Go.Sort Go.Shelf
set_option maxHeartbeats 2000000

def cfS (x y : Int × Int) : Int := if x.1 < y.1 then -1 else if y.1 < x.1 then 1 else 0
theorem cfS_lt (x y : Int × Int) : ltOf cfS x y = decide (x.1 < y.1) := by
  unfold ltOf cfS
  by_cases h : x.1 < y.1
  · simp [h]
  · by_cases h2 : y.1 < x.1 <;> simp [h, h2]
theorem cfS_swo : SWO (ltOf cfS) where
  irrefl x := by rw [cfS_lt]; simp
  trans x y z h1 h2 := by
    rw [cfS_lt] at *
    have := of_decide_eq_true h1
    have := of_decide_eq_true h2
    exact decide_eq_true (by omega)
  ntrans x y z h1 h2 := by
    rw [cfS_lt] at *
    have := of_decide_eq_false h1
    have := of_decide_eq_false h2
    exact decide_eq_false (by omega)
theorem closure_any (x y : Int × Int) (W : World) : Calls Tryz.prog 21 #[.agg #[.int .i64 x.1, .int .i64 x.2], .agg #[.int .i64 y.1, .int .i64 y.2]] W fun e w' => e = .returned (.int .i64 (cfS x y)) ∧ ∃ q os', w' = grow (W.drewN q) os' := by
  obtain ⟨x1, x2⟩ := x
  obtain ⟨y1, y2⟩ := y
  obtain ⟨R, hR⟩ := name_it (cfS (x1, x2) (y1, y2))
  rw [hR.out]
  show Calls Tryz.prog 21 #[.agg #[.int .i64 x1, .int .i64 x2], .agg #[.int .i64 y1, .int .i64 y2]] W _
  have hcf : R = if x1 < y1 then -1 else if y1 < x1 then 1 else 0 := hR.out.symm
  by_cases h1 : x1 < y1
  · rw [if_pos h1] at hcf
    go_enter Tryz.func21, Tryz.ntmps21
    go_wp2_with fail
    all_goals (try (exfalso; omega))
    go_ret
    exact ⟨by first | rfl | (rw [hcf]; rfl), 0, _, by rw [alloc_eq_grow, alloc_eq_grow, grow_grow]; rfl⟩
  · rw [if_neg h1] at hcf
    by_cases h2 : y1 < x1
    · rw [if_pos h2] at hcf
      go_enter Tryz.func21, Tryz.ntmps21
      go_wp2_with fail
      all_goals (try (exfalso; omega))
      go_ret
      exact ⟨by first | rfl | (rw [hcf]; rfl), 0, _, by rw [alloc_eq_grow, alloc_eq_grow, grow_grow]; rfl⟩
    · rw [if_neg h2] at hcf
      go_enter Tryz.func21, Tryz.ntmps21
      go_wp2_with fail
      all_goals (try (exfalso; omega))
      go_ret
      exact ⟨by first | rfl | (rw [hcf]; rfl), 0, _, by rw [alloc_eq_grow, alloc_eq_grow, grow_grow]; rfl⟩

theorem below_sortWorldK {B : Nat} {w : World} {blk n : Nat} {d : Array (Int × Int)} {os : Array Obj} (hB : B ≤ blk) (hlt : blk < w.heap.size) : Below B w (sortWorldK encS 2 w blk 0 n d os) where
  os := rfl
  tape := rfl
  output := rfl
  size := by
    unfold sortWorldK grow putRowK putRow mapBlock
    simp
  block k hk := by
    unfold sortWorldK grow putRowK putRow mapBlock
    show ((w.heap.modify blk _) ++ os)[k]? = w.heap[k]?
    rw [Array.getElem?_append_left (by simp; omega), Array.getElem?_modify, if_neg (by omega)]
theorem encS_one (x : Int × Int) : ∀ v ∈ encS x, v.oneCell' = true := by
  intro v hv
  simp [encS] at hv
  rcases hv with rfl | rfl <;> rfl
theorem sort_any (g : Nat) (l : List (Int × Int)) (w : World) (hg : w.heap[g]? = some (.cells (cellsS l).toArray 38 (0, 0))) (nl : l.length ≤ 1048576) :
    Calls Tryz.prog 20 #[.slice (some ⟨g, 0, none⟩) l.length l.length, .func (.func 21) #[] #[]] w fun e w' => e = .returned (.tuple #[]) ∧
      ∃ l2 : List (Int × Int), l2.Perm l ∧ l2.Pairwise (fun a b => a.1 ≤ b.1) ∧ (∀ j (hj : j < l2.length), w'.cell? ⟨g, j * 2, none⟩ = some (.int .i64 l2[j].1) ∧ w'.cell? ⟨g, j * 2 + 1, none⟩ = some (.int .i64 l2[j].2)) ∧ ∀ B, B ≤ g → B ≤ w.heap.size → Below B w w' := by
  have hlt : g < w.heap.size := (Array.getElem?_eq_some_iff.1 hg).1
  have hH : HoldsK encS 2 w g 0 l.toArray := by
    intro t ht
    rw [size_flatK] at ht
    have ht2 : t < l.length * 2 := by simpa using ht
    have hk : t / 2 < l.length := by omega
    have hx : l[t / 2]? = some l[t / 2] := List.getElem?_eq_getElem hk
    obtain ⟨c1, c2⟩ := cellsS_get l _ _ hx
    constructor
    · rw [get_flatK _ _ _ _ (by simpa using ht2), Nat.zero_add]
      have e1 : w.cell? ⟨g, t, none⟩ = (cellsS l)[t]? := by simp [World.cell?, hg]
      have e2 : l.toArray[t / 2]! = l[t / 2] := by simp [hk]
      rw [e1, e2]
      rcases Nat.mod_two_eq_zero_or_one t with hm | hm
      · rw [hm]
        have : 2 * (t / 2) = t := by omega
        rw [this] at c1
        rw [c1]; rfl
      · rw [hm]
        have : 2 * (t / 2) + 1 = t := by omega
        rw [this] at c2
        rw [c2]; rfl
    · simp [World.frozen?, hg]
  have eg : ∀ args w, (callFunc 21 args).run Tryz.prog w = .ok (.enter 21 args) w := enters_of Tryz.func21 (by kernel_rfl) rfl
  have hcon := AnyQ.slices_SortFunc Tryz.laySort 2 Tryz.isAgg38 Tryz.sizeOf38 encS (fun _ => rfl) encS_one cfS cfS_swo 21 #[] g 0 l.length l.toArray w eg (fun _ _ _ _ x y => closure_any x y _) hH hlt (by simp; omega)
  rw [show l.toArray.size = l.length from rfl] at hcon
  refine hcon.mono ?_
  rintro e w' ⟨rfl, d', n, os, hperm, hsort, rfl⟩
  obtain ⟨p1, _, p3⟩ := hperm
  have hs : d'.size = l.length := p1
  have hH2 := holdsK_sortWorldK_c encS 2 w g 0 l.toArray d' n os hH hlt p1
  refine ⟨rfl, d'.toList, ?_, ?_, fun j hj => ?_, fun B hB _ => below_sortWorldK hB hlt⟩
  · have e1 : d'.extract 0 l.length = d' := by rw [← hs]; exact Array.extract_size
    have e2 : l.toArray.extract 0 l.length = l.toArray := Array.extract_size
    rw [e1, e2] at p3
    exact p3
  · rw [List.pairwise_iff_getElem]
    intro i j hi hj hij
    have := hsort i j (Nat.zero_le _) hij (by simpa [hs] using hj)
    rw [cfS_lt] at this
    have := of_decide_eq_false this
    have hi2 : i < d'.size := by simpa using hi
    have hj2 : j < d'.size := by simpa using hj
    rw [getElem!_pos d' i hi2, getElem!_pos d' j hj2] at this
    simp only [Array.getElem_toList]
    omega
  · have hj2 : j < d'.size := by simpa using hj
    have c0 := (hH2.cell (i := j) (c := 0) hj2 (by decide)).1
    have c1 := (hH2.cell (i := j) (c := 1) hj2 (by decide)).1
    rw [getElem!_pos d' j hj2] at c0 c1
    simp only [Nat.zero_add, Nat.add_zero] at c0 c1
    simp only [Array.getElem_toList]
    exact ⟨c0, c1⟩
end Go.Proofs.YtnodboggemggmaaGreatDoor
