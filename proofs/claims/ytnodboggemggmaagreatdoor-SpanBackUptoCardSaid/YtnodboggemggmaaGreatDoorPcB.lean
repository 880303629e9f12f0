/- Contract of the program's part: one part read. -/
import Derived.Test.YtnodboggemggmaaGreatDoorPcA
import Derived.Test.YtnodboggemggmaaGreatDoorToldA
import Derived.Test.YtnodboggemggmaaGreatDoorMergeC
import Derived.Deep.RegionLaw
namespace Go.Proofs.YtnodboggemggmaaGreatDoor
open Go Go.RowKit
set_option maxHeartbeats 4000000

def partPost (w w' : World) (g B : Nat) (s : ByteArray) (n : Nat) (l : List Pc) (e : Ending) : PartR → Prop
  | .stop a z => e = .returned (.tuple #[.int .i64 a, .int .i64 z]) ∧ Below g w w'
  | .go p u => e = .returned (.tuple #[.int .i64 0, .int .i64 0]) ∧ ∃ v', Rd w' g s (n + u : Nat) v' ∧ PcRow w' B 40 v' (l ++ [p]) ∧ Below g w w'
theorem infoPiece : (Tryz.prog.info? 40).map (fun i => (i.zero, i.size, i.bytes)) = some (some (.agg #[.string ⟨#[]⟩, .int .i64 0, .int .i64 0, .int .i64 0, .string ⟨#[]⟩]), 5, 56) := by kernel_rfl
theorem L_media : L ⟨#[67, 111, 110, 116, 101, 110, 116, 45, 84, 121, 112, 101, 58, 32]⟩ = mediaL := rfl
theorem L_ranged : L ⟨#[67, 111, 110, 116, 101, 110, 116, 45, 82, 97, 110, 103, 101, 58, 32]⟩ = rangedL := rfl

/-- a part that is being read: its block's cells -/
structure Pb (w : World) (g : Nat) (m : ByteArray) (x y z : Int) (t : ByteArray) : Prop where
  c0 : w.cell? ⟨g, 0, none⟩ = some (.string m)
  c1 : w.cell? ⟨g, 1, none⟩ = some (.int .i64 x)
  c2 : w.cell? ⟨g, 2, none⟩ = some (.int .i64 y)
  c3 : w.cell? ⟨g, 3, none⟩ = some (.int .i64 z)
  c4 : w.cell? ⟨g, 4, none⟩ = some (.string t)
  f1 : w.frozen? ⟨g, 1, none⟩ = false
  f2 : w.frozen? ⟨g, 2, none⟩ = false
  f3 : w.frozen? ⟨g, 3, none⟩ = false
  f4 : w.frozen? ⟨g, 4, none⟩ = false
  lt : g < w.heap.size
theorem Pb.new (w : World) (m : ByteArray) (x y z : Int) (t : ByteArray) (T : TypeId) : Pb (w.alloc (.cells #[.string m, .int .i64 x, .int .i64 y, .int .i64 z, .string t] T)) w.heap.size m x y z t where
  c0 := World.cell?_alloc_mark w #[.string m, .int .i64 x, .int .i64 y, .int .i64 z, .string t] T (0, 0) 0
  c1 := World.cell?_alloc_mark w #[.string m, .int .i64 x, .int .i64 y, .int .i64 z, .string t] T (0, 0) 1
  c2 := World.cell?_alloc_mark w #[.string m, .int .i64 x, .int .i64 y, .int .i64 z, .string t] T (0, 0) 2
  c3 := World.cell?_alloc_mark w #[.string m, .int .i64 x, .int .i64 y, .int .i64 z, .string t] T (0, 0) 3
  c4 := World.cell?_alloc_mark w #[.string m, .int .i64 x, .int .i64 y, .int .i64 z, .string t] T (0, 0) 4
  f1 := by unfold World.frozen?; rw [show (w.alloc (.cells _ T)).heap[w.heap.size]? = _ from heap_alloc_new w _]; rfl
  f2 := by unfold World.frozen?; rw [show (w.alloc (.cells _ T)).heap[w.heap.size]? = _ from heap_alloc_new w _]; rfl
  f3 := by unfold World.frozen?; rw [show (w.alloc (.cells _ T)).heap[w.heap.size]? = _ from heap_alloc_new w _]; rfl
  f4 := by unfold World.frozen?; rw [show (w.alloc (.cells _ T)).heap[w.heap.size]? = _ from heap_alloc_new w _]; rfl
  lt := by show w.heap.size < (w.heap.push _).size; rw [Array.size_push]; omega
theorem Pb.next {w w' : World} {g B : Nat} {m : ByteArray} {x y z : Int} {t : ByteArray} (h : Pb w g m x y z t) (hb : Below B w w') (hB : g < B) : Pb w' g m x y z t where
  c0 := by rw [hb.cell (p := ⟨g, 0, none⟩) hB]; exact h.c0
  c1 := by rw [hb.cell (p := ⟨g, 1, none⟩) hB]; exact h.c1
  c2 := by rw [hb.cell (p := ⟨g, 2, none⟩) hB]; exact h.c2
  c3 := by rw [hb.cell (p := ⟨g, 3, none⟩) hB]; exact h.c3
  c4 := by rw [hb.cell (p := ⟨g, 4, none⟩) hB]; exact h.c4
  f1 := by rw [hb.frozen (p := ⟨g, 1, none⟩) hB]; exact h.f1
  f2 := by rw [hb.frozen (p := ⟨g, 2, none⟩) hB]; exact h.f2
  f3 := by rw [hb.frozen (p := ⟨g, 3, none⟩) hB]; exact h.f3
  f4 := by rw [hb.frozen (p := ⟨g, 4, none⟩) hB]; exact h.f4
  lt := Nat.lt_of_lt_of_le h.lt hb.size
theorem Pb.off {w : World} {g : Nat} {m : ByteArray} {x y z : Int} {t : ByteArray} (h : Pb w g m x y z t) {p : Addr} (hp : p.block ≠ g) (u : Value) : Pb (w.setCell p u) g m x y z t where
  c0 := (World.cell?_setCell_other w p ⟨g, 0, none⟩ u (fun e => hp (congrArg Addr.block e))).trans h.c0
  c1 := (World.cell?_setCell_other w p ⟨g, 1, none⟩ u (fun e => hp (congrArg Addr.block e))).trans h.c1
  c2 := (World.cell?_setCell_other w p ⟨g, 2, none⟩ u (fun e => hp (congrArg Addr.block e))).trans h.c2
  c3 := (World.cell?_setCell_other w p ⟨g, 3, none⟩ u (fun e => hp (congrArg Addr.block e))).trans h.c3
  c4 := (World.cell?_setCell_other w p ⟨g, 4, none⟩ u (fun e => hp (congrArg Addr.block e))).trans h.c4
  f1 := by simp [h.f1]
  f2 := by simp [h.f2]
  f3 := by simp [h.f3]
  f4 := by simp [h.f4]
  lt := by simp [h.lt]

theorem Pb.set1 {w : World} {g : Nat} {m : ByteArray} {x y z : Int} {t : ByteArray} (h : Pb w g m x y z t) (u : Int) : Pb (w.setCell ⟨g, 1, none⟩ (.int .i64 u)) g m u y z t where
  c0 := (World.cell?_setCell_other w ⟨g, 1, none⟩ ⟨g, 0, none⟩ (.int .i64 u) (by simp)).trans h.c0
  c1 := World.cell?_setCell_same w ⟨g, 1, none⟩ (.int .i64 u) h.c1
  c2 := (World.cell?_setCell_other w ⟨g, 1, none⟩ ⟨g, 2, none⟩ (.int .i64 u) (by simp)).trans h.c2
  c3 := (World.cell?_setCell_other w ⟨g, 1, none⟩ ⟨g, 3, none⟩ (.int .i64 u) (by simp)).trans h.c3
  c4 := (World.cell?_setCell_other w ⟨g, 1, none⟩ ⟨g, 4, none⟩ (.int .i64 u) (by simp)).trans h.c4
  f1 := by simp [h.f1]
  f2 := by simp [h.f2]
  f3 := by simp [h.f3]
  f4 := by simp [h.f4]
  lt := by simp [h.lt]
theorem Pb.set2 {w : World} {g : Nat} {m : ByteArray} {x y z : Int} {t : ByteArray} (h : Pb w g m x y z t) (u : Int) : Pb (w.setCell ⟨g, 2, none⟩ (.int .i64 u)) g m x u z t where
  c0 := (World.cell?_setCell_other w ⟨g, 2, none⟩ ⟨g, 0, none⟩ (.int .i64 u) (by simp)).trans h.c0
  c1 := (World.cell?_setCell_other w ⟨g, 2, none⟩ ⟨g, 1, none⟩ (.int .i64 u) (by simp)).trans h.c1
  c2 := World.cell?_setCell_same w ⟨g, 2, none⟩ (.int .i64 u) h.c2
  c3 := (World.cell?_setCell_other w ⟨g, 2, none⟩ ⟨g, 3, none⟩ (.int .i64 u) (by simp)).trans h.c3
  c4 := (World.cell?_setCell_other w ⟨g, 2, none⟩ ⟨g, 4, none⟩ (.int .i64 u) (by simp)).trans h.c4
  f1 := by simp [h.f1]
  f2 := by simp [h.f2]
  f3 := by simp [h.f3]
  f4 := by simp [h.f4]
  lt := by simp [h.lt]
theorem Pb.set3 {w : World} {g : Nat} {m : ByteArray} {x y z : Int} {t : ByteArray} (h : Pb w g m x y z t) (u : Int) : Pb (w.setCell ⟨g, 3, none⟩ (.int .i64 u)) g m x y u t where
  c0 := (World.cell?_setCell_other w ⟨g, 3, none⟩ ⟨g, 0, none⟩ (.int .i64 u) (by simp)).trans h.c0
  c1 := (World.cell?_setCell_other w ⟨g, 3, none⟩ ⟨g, 1, none⟩ (.int .i64 u) (by simp)).trans h.c1
  c2 := (World.cell?_setCell_other w ⟨g, 3, none⟩ ⟨g, 2, none⟩ (.int .i64 u) (by simp)).trans h.c2
  c3 := World.cell?_setCell_same w ⟨g, 3, none⟩ (.int .i64 u) h.c3
  c4 := (World.cell?_setCell_other w ⟨g, 3, none⟩ ⟨g, 4, none⟩ (.int .i64 u) (by simp)).trans h.c4
  f1 := by simp [h.f1]
  f2 := by simp [h.f2]
  f3 := by simp [h.f3]
  f4 := by simp [h.f4]
  lt := by simp [h.lt]
theorem Pb.set4 {w : World} {g : Nat} {m : ByteArray} {x y z : Int} {t : ByteArray} (h : Pb w g m x y z t) (u : ByteArray) : Pb (w.setCell ⟨g, 4, none⟩ (.string u)) g m x y z u where
  c0 := (World.cell?_setCell_other w ⟨g, 4, none⟩ ⟨g, 0, none⟩ (.string u) (by simp)).trans h.c0
  c1 := (World.cell?_setCell_other w ⟨g, 4, none⟩ ⟨g, 1, none⟩ (.string u) (by simp)).trans h.c1
  c2 := (World.cell?_setCell_other w ⟨g, 4, none⟩ ⟨g, 2, none⟩ (.string u) (by simp)).trans h.c2
  c3 := (World.cell?_setCell_other w ⟨g, 4, none⟩ ⟨g, 3, none⟩ (.string u) (by simp)).trans h.c3
  c4 := World.cell?_setCell_same w ⟨g, 4, none⟩ (.string u) h.c4
  f1 := by simp [h.f1]
  f2 := by simp [h.f2]
  f3 := by simp [h.f3]
  f4 := by simp [h.f4]
  lt := by simp [h.lt]
theorem Rd.off {w : World} {g : Nat} {s : ByteArray} {n : Int} {v : Value} (h : Rd w g s n v) {p : Addr} (hp : p.block ≠ g) (u : Value) : Rd (w.setCell p u) g s n v where
  c0 := (World.cell?_setCell_other w p ⟨g, 0, none⟩ u (fun e => hp (congrArg Addr.block e))).trans h.c0
  c1 := (World.cell?_setCell_other w p ⟨g, 1, none⟩ u (fun e => hp (congrArg Addr.block e))).trans h.c1
  c2 := (World.cell?_setCell_other w p ⟨g, 2, none⟩ u (fun e => hp (congrArg Addr.block e))).trans h.c2
  f1 := by simp [h.f1]
  f2 := by simp [h.f2]
  lt := by simp [h.lt]
theorem own_setCell2 {w : World} {b : Nat} {e : TypeId} {size n : Nat} {v : Value} {xs : List Value} (h : w.ownsRow b e size v n xs) {p : Addr} (hp : ∀ k, v.ownBlock = some k → k ≠ p.block) (u : Value) : (w.setCell p u).ownsRow b e size v n xs := by
  refine ⟨h.1, ?_⟩
  rcases h.2 with h | ⟨g, cap, cur, h1, h2, h3, r⟩
  · exact Or.inl h
  · refine Or.inr ⟨g, cap, cur, h1, h2, ?_, r⟩
    rw [Below.heap_setCell w p u g (hp g (by rw [h1]; rfl))]
    exact h3
theorem hp_starts (l t : List UInt8) : Lib.hasPrefix l t = startsB l t := by
  unfold Lib.hasPrefix startsB
  rw [Bool.eq_iff_iff, decide_eq_true_eq, List.isPrefixOf_iff_prefix, List.prefix_iff_eq_take]
  exact eq_comm
theorem hp_cut {l t : List UInt8} (h : startsB l t = false) : Lib.hasPrefix t l = cutB l t := by
  unfold Lib.hasPrefix cutB
  rw [Bool.eq_iff_iff, decide_eq_true_eq, List.isPrefixOf_iff_prefix, List.prefix_iff_eq_take]
  constructor
  · intro e
    refine ⟨?_, e.symm⟩
    have hl := congrArg List.length e
    rw [List.length_take] at hl
    rcases Nat.lt_or_ge l.length t.length with h1 | h1
    · exact h1
    · have h2 : l = t := by rw [List.take_of_length_le (by omega)] at e; exact e
      subst h2
      unfold startsB at h
      rw [List.take_length] at h
      simp at h
  · exact fun hh => hh.2.symm

set_option maxRecDepth 100000 in
theorem part_any (g : Nat) (s : ByteArray) (n : Nat) (v : Value) (l : List Pc) (B : Nat) (w0 w : World) (hE : EnvP w0) (h0 : Below w0.heap.size w0 w) (hg0 : w0.heap.size ≤ g) (hs : s.size ≤ 400000000) (hn : n ≤ s.size) (hr : Rd w g s n v) (hl : PcRow w B 40 v l) (hgB : g < B) (hB : B ≤ w.heap.size) (nl : l.length ≤ 400000000) :
    Calls Tryz.prog 31 #[.pointer (some ⟨g, 0, none⟩)] w fun e w' => partPost w w' g B s n l e (partM s.size n ((L s).drop n)) := by
  have HE : Hid (∀ w', Below g w w' → EnvP w') := fun w' hb => hE.next (h0.trans (hb.mono hg0)); clear hE h0 hg0
  have HR := Lib.hid hr; clear hr
  have HL := Lib.hid hl; clear hl
  obtain ⟨V, hV⟩ := name_it (partM s.size n ((L s).drop n))
  rw [hV.out]
  have hm : Hid (V = partM s.size n ((L s).drop n)) := hV.out.symm
  clear hV
  have hc1 := line_any g s ⟨#[67, 111, 110, 116, 101, 110, 116, 45, 84, 121, 112, 101, 58, 32]⟩ n w (HE.out w (Below.refl _ _)).env (by omega) (by decide) (by decide) hn HR.out.c0 HR.out.c1 HR.out.lt
  rw [L_media] at hc1
  unfold partM at hm
  have hwB : Below g w w := Below.refl _ _
  have hgw : g < w.heap.size := HR.out.lt
  cases h1 : lineM mediaL ((L s).drop n) with
  | short =>
    rw [h1] at hc1 hm
    simp only [lineV] at hm hc1
    have C1 := Lib.hid hc1
    clear hc1
    go_enter Tryz.func31, Tryz.ntmps31
    go_wp2_with (go_at_call 51; refine C1.out.mono ?_; rintro e w1 ⟨rfl, hb1⟩)
    go_wp2_with fail
    go_ret2
    rw [hm.out]
    exact ⟨rfl, hb1.mono (Nat.le_of_lt hgw)⟩
  | bad =>
    rw [h1] at hc1 hm
    simp only [lineV] at hm hc1
    have C1 := Lib.hid hc1
    clear hc1
    go_enter Tryz.func31, Tryz.ntmps31
    go_wp2_with (go_at_call 51; refine C1.out.mono ?_; rintro e w1 ⟨rfl, hb1⟩)
    go_wp2_with fail
    go_ret2
    rw [hm.out]
    exact ⟨rfl, hb1.mono (Nat.le_of_lt hgw)⟩
  | val k =>
    rw [h1] at hc1 hm
    simp only [lineV] at hm hc1
    obtain ⟨hk1, hkf⟩ := lineM_val h1
    have hkl := congrArg List.length hk1
    simp only [List.length_append, List.length_drop, L_length, List.length_cons, List.length_nil, show mediaL.length = 14 from rfl] at hkl
    obtain ⟨n1, hn1⟩ : ∃ n1 : Nat, n1 = n + (14 + k.length + 2) := ⟨_, rfl⟩
    obtain ⟨kb, hkb⟩ := name_it (bs k)
    rw [hkb.out] at hc1
    have C1 := Lib.hid hc1
    clear hc1
    have hks : kb.size = k.length := by rw [← hkb.out, size_bs]
    have hkz : kb.size ≤ s.size := by omega
    have hn1s : n1 ≤ s.size := by omega
    have hz : Hid ((n : Int) + (14 + (kb.size : Int) + 2) = (n1 : Int)) := by unfold Hid; omega
    rw [List.drop_drop, ← hn1] at hm
    have HN1 := Lib.hid hn1
    clear hn1
    clear hkl hk1 hks
    go_enter Tryz.func31, Tryz.ntmps31
    go_wp2_with fail
    refine C1.out.mono ?_; rintro e w1 ⟨rfl, hb1⟩
    have hsz := hb1.size
    have r1 := HR.out.next hb1 hgw
    have RA := Lib.hid (r1.next ((Below.refl w1.heap.size w1).alloc (Nat.le_refl _) (.cells #[.string kb, .int .i64 0, .int .i64 0, .int .i64 0, .string ⟨#[]⟩] 40)) r1.lt)
    have PA := Lib.hid (Pb.new w1 kb 0 0 0 ⟨#[]⟩ 40)
    have d1 := Lib.hid (hb1.mono (Nat.le_of_lt hgw))
    have LA : Hid (PcRow (w1.alloc (.cells #[.string kb, .int .i64 0, .int .i64 0, .int .i64 0, .string ⟨#[]⟩] 40)) B 40 v l) := (own_keep HL.out hb1 (Nat.le_refl _)).alloc _
    have DA : Hid (Below g w (w1.alloc (.cells #[.string kb, .int .i64 0, .int .i64 0, .int .i64 0, .string ⟨#[]⟩] 40))) := d1.out.alloc (by omega) _
    have x1 := RA.out.c1
    have y1 := RA.out.f1
    clear r1 d1
    go_wp2_with fail
    rw [hz.out]
    have R2 := Lib.hid (RA.out.setAt n1)
    have P2 := Lib.hid (PA.out.off (p := ⟨g, 1, none⟩) (by show g ≠ _; omega) (.int .i64 n1))
    have L2 : Hid (PcRow _ B 40 v l) := own_setCell LA.out (p := ⟨g, 1, none⟩) hgB (.int .i64 n1)
    have D2 := Lib.hid (DA.out.setCell (p := ⟨g, 1, none⟩) (Nat.le_refl _) (.int .i64 n1))
    have B7 : B ≤ w1.heap.size := by omega
    have V7 : Hid (∀ k, v.ownBlock = some k → k ≠ w1.heap.size) := fun k hk => Nat.ne_of_lt ((World.ownsRow.lt (own_keep HL.out hb1 (Nat.le_refl _)) k hk).2)
    obtain ⟨b7, hb7⟩ : ∃ b7 : Nat, b7 = w1.heap.size := ⟨_, rfl⟩
    clear x1 y1 RA PA LA DA
    rw [← hb7] at P2 B7 V7
    rw [← hb7]
    clear hb7
    obtain ⟨w2, hw2⟩ := name_it ((w1.alloc (.cells #[.string kb, .int .i64 0, .int .i64 0, .int .i64 0, .string ⟨#[]⟩] 40)).setCell ⟨g, 1, none⟩ (.int .i64 n1))
    rw [hw2.out] at R2 P2 L2 D2
    rw [hw2.out]
    clear hw2
    have hc2 := line_any g s ⟨#[67, 111, 110, 116, 101, 110, 116, 45, 82, 97, 110, 103, 101, 58, 32]⟩ n1 w2 (HE.out w2 D2.out).env (by omega) (by decide) (by decide) hn1s R2.out.c0 R2.out.c1 R2.out.lt
    rw [L_ranged] at hc2
    cases h2 : lineM rangedL ((L s).drop n1) with
    | short =>
      rw [h2] at hc2 hm
      simp only [lineV] at hm hc2
      refine hc2.mono ?_; rintro e w3 ⟨rfl, hb3⟩
      clear hc2
      go_wp2_with fail
      go_ret2
      rw [hm.out]
      exact ⟨rfl, D2.out.trans (hb3.mono (Nat.le_of_lt R2.out.lt))⟩
    | bad =>
      rw [h2] at hc2 hm
      simp only [lineV] at hm hc2
      refine hc2.mono ?_; rintro e w3 ⟨rfl, hb3⟩
      clear hc2
      go_wp2_with fail
      go_ret2
      rw [hm.out]
      exact ⟨rfl, D2.out.trans (hb3.mono (Nat.le_of_lt R2.out.lt))⟩
    | val t =>
      rw [h2] at hc2 hm
      simp only [lineV] at hm hc2
      obtain ⟨ht1, -⟩ := lineM_val h2
      have hn1 := HN1.out
      have htl := congrArg List.length ht1
      simp only [List.length_append, List.length_drop, L_length, List.length_cons, List.length_nil, show rangedL.length = 15 from rfl] at htl
      obtain ⟨n2, hn2⟩ : ∃ n2 : Nat, n2 = n1 + (15 + t.length + 2) := ⟨_, rfl⟩
      obtain ⟨tb, htb⟩ := name_it (bs t)
      rw [htb.out] at hc2
      have hts : tb.size = t.length := by rw [← htb.out, size_bs]
      have htz : tb.size ≤ s.size := by omega
      have hn2s : n2 ≤ s.size := by omega
      have hz2 : Hid ((n1 : Int) + (15 + (tb.size : Int) + 2) = (n2 : Int)) := by unfold Hid; omega
      have e2 : n + (14 + k.length + 2 + (15 + t.length + 2)) = n2 := by omega
      have e3 : n + (14 + k.length + 2 + (15 + t.length + 2) + 2) = n2 + 2 := by omega
      rw [List.drop_drop, List.drop_drop, e2, e3] at hm
      have e4 : Hid (14 + k.length + 2 + (15 + t.length + 2) + 2 = n2 + 2 - n) := by unfold Hid; omega
      have htold := fun wx hx => told_any tb wx hx (by omega)
      have hLt : L tb = t := by rw [← htb.out, L_bs]
      rw [hLt] at htold
      have bd := toldM_bd t
      obtain ⟨q, hq⟩ := name_it (toldM t)
      rw [hq.out] at hm htold bd
      clear htl ht1 hts e2 e3 hLt hn1
      obtain ⟨a, b, z, e⟩ := q
      have TOLD := Lib.hid htold
      clear htold hq
      obtain ⟨be, ba0, ba1, bb0, bb1, bz0, bz1, bab⟩ := bd
      simp only [] at be ba0 ba1 bb0 bb1 bz0 bz1 bab
      refine hc2.mono ?_; rintro e w3 ⟨rfl, hb3⟩
      clear hc2
      go_wp2_with fail
      refine (TOLD.out _ (HE.out _ (D2.out.trans (hb3.mono (Nat.le_of_lt R2.out.lt))))).mono ?_; rintro e w4 ⟨rfl, hb4⟩
      have d4 := hb3.trans (hb4.mono hb3.size)
      have R4 := Lib.hid (R2.out.next d4 R2.out.lt)
      have P4 := Lib.hid (P2.out.next d4 P2.out.lt)
      have L4 : Hid (PcRow w4 B 40 v l) := own_keep L2.out d4 (Nat.le_refl _)
      have D4 := Lib.hid (D2.out.trans (d4.mono (Nat.le_of_lt R2.out.lt)))
      clear hb3 hb4 d4 D2 R2 P2 L2
      have u1 := R4.out.c1
      have u0 := R4.out.c0
      have u2 := R4.out.f1
      have hbg : ¬ b7 = g := by omega
      have x1 := P4.out.c1
      have x2 := P4.out.c2
      have x3 := P4.out.c3
      have y1 := P4.out.f1
      have y2 := P4.out.f2
      have y3 := P4.out.f3
      unfold toldV
      simp only []
      rcases be with rfl | rfl
      case inr =>
        go_wp2_with fail
        go_ret2
        rw [hm.out, if_pos (Or.inl (by decide))]
        exact ⟨rfl, ((D4.out.setCell (p := ⟨b7, 1, none⟩) (by show g ≤ b7; omega) _).setCell (p := ⟨b7, 2, none⟩) (by show g ≤ b7; omega) _).setCell (p := ⟨b7, 3, none⟩) (by show g ≤ b7; omega) _⟩
      case inl =>
        by_cases hb0 : b = 0
        · have ha0 : a = 0 := by
            by_cases h : a = 0
            · exact h
            · have := bab (fun hh => h hh.1)
              omega
          subst hb0 ha0
          clear bab
          have hm2 : Hid (V = PartR.stop n1 93) := by
            unfold Hid
            rw [hm.out]
            exact if_pos (Or.inr ⟨rfl, rfl⟩)
          clear hm
          go_wp2_with fail
          go_ret2
          rw [hm2.out]
          exact ⟨rfl, ((D4.out.setCell (p := ⟨b7, 1, none⟩) (by show g ≤ b7; omega) _).setCell (p := ⟨b7, 2, none⟩) (by show g ≤ b7; omega) _).setCell (p := ⟨b7, 3, none⟩) (by show g ≤ b7; omega) _⟩
        · have hab := bab (fun hh => hb0 hh.2)
          have hm2 : Hid (V = if startsB (List.drop n2 (L s)) [13, 10] = true then
              if ((List.drop (n2 + 2) (L s)).length : Int) < b - a then PartR.stop s.size 94
              else .go ⟨k, a, b, z, ((L s).drop (n2 + 2)).take (b - a).toNat⟩ (14 + k.length + 2 + (15 + t.length + 2) + 2 + (b - a).toNat)
            else if cutB (List.drop n2 (L s)) [13, 10] = true then .stop s.size 94 else .stop (n2 : Nat) 93) := by
            unfold Hid
            rw [hm.out, if_neg]
            rintro (h | h)
            · exact h rfl
            · exact hb0 h.2
          clear hm bab TOLD
          have hx : Hid (s.extract n2 s.size = bs ((L s).drop n2)) := extract_tail s n2
          have b1 : (0 : Int) ≤ (n2 : Int) := by omega
          have b2 : (n2 : Int) ≤ (s.size : Int) := by omega
          have HN2 := Lib.hid hn2
          clear hn2
          go_wp2_with fail
          have R5 := Lib.hid ((((R4.out.off (p := ⟨b7, 1, none⟩) hbg (.int .i64 a)).off (p := ⟨b7, 2, none⟩) hbg (.int .i64 b)).off (p := ⟨b7, 3, none⟩) hbg (.int .i64 z)).setAt n2)
          have P5 := Lib.hid ((((P4.out.set1 a).set2 b).set3 z).off (p := ⟨g, 1, none⟩) (Ne.symm hbg) (.int .i64 n2))
          have L5 : Hid (PcRow _ B 40 v l) := own_setCell (own_setCell2 (own_setCell2 (own_setCell2 L4.out (p := ⟨b7, 1, none⟩) V7.out (.int .i64 a)) (p := ⟨b7, 2, none⟩) V7.out (.int .i64 b)) (p := ⟨b7, 3, none⟩) V7.out (.int .i64 z)) (p := ⟨g, 1, none⟩) hgB (.int .i64 n2)
          have D5 := Lib.hid ((((D4.out.setCell (p := ⟨b7, 1, none⟩) (by show g ≤ b7; omega) (.int .i64 a)).setCell (p := ⟨b7, 2, none⟩) (by show g ≤ b7; omega) (.int .i64 b)).setCell (p := ⟨b7, 3, none⟩) (by show g ≤ b7; omega) (.int .i64 z)).setCell (p := ⟨g, 1, none⟩) (Nat.le_refl _) (.int .i64 n2))
          clear u0 u1 u2 x1 x2 x3 y1 y2 y3 R4 P4 L4 D4
          rw [hz2.out]
          obtain ⟨w5, hw5⟩ := name_it ((((w4.setCell ⟨b7, 1, none⟩ (.int .i64 a)).setCell ⟨b7, 2, none⟩ (.int .i64 b)).setCell ⟨b7, 3, none⟩ (.int .i64 z)).setCell ⟨g, 1, none⟩ (.int .i64 n2))
          rw [hw5.out] at R5 P5 L5 D5
          rw [hw5.out]
          clear hw5
          have x0 := R5.out.c0
          have x1 := R5.out.c1
          have y1 := R5.out.f1
          have p1 := P5.out.c1
          have p2 := P5.out.c2
          have f4 := P5.out.f4
          have c4 := P5.out.c4
          obtain ⟨r, hr⟩ := name_it ((L s).drop n2)
          rw [hr.out] at hx hm2
          have hrl : Hid (r.length = s.size - n2) := by rw [← hr.out]; unfold Hid; rw [List.length_drop, L_length]
          have hp1 : Hid (∀ wx, Calls Tryz.prog 30 #[.string (bs r), .string ⟨#[13, 10]⟩] wx fun e w' => e = .returned (.bool (startsB r [13, 10])) ∧ wx = w') := by
            intro wx
            refine (Tryz.strings_HasPrefix (bs r) ⟨#[13, 10]⟩ wx).mono ?_
            rintro e w' ⟨rfl, rfl⟩
            refine ⟨?_, rfl⟩
            show Ending.returned (.bool (Lib.hasPrefix (L (bs r)) [13, 10])) = _
            rw [L_bs, hp_starts]
          have hp2 : Hid (startsB r [13, 10] = false → ∀ wx, Calls Tryz.prog 30 #[.string ⟨#[13, 10]⟩, .string (bs r)] wx fun e w' => e = .returned (.bool (cutB r [13, 10])) ∧ wx = w') := by
            intro hf wx
            refine (Tryz.strings_HasPrefix ⟨#[13, 10]⟩ (bs r) wx).mono ?_
            rintro e w' ⟨rfl, rfl⟩
            refine ⟨?_, rfl⟩
            show Ending.returned (.bool (Lib.hasPrefix [13, 10] (L (bs r)))) = _
            rw [L_bs, hp_cut hf]
          cases hst : startsB r [13, 10] with
          | false =>
            have HP2 := Lib.hid (hp2.out hst)
            have HP1 := hp1
            rw [hst] at HP1 hm2
            clear hp1 hp2 hst
            rw [if_neg (by decide)] at hm2
            cases hcu : cutB r [13, 10]
            all_goals
              rw [hcu] at HP2 hm2
              clear hcu
              first | rw [if_pos rfl] at hm2 | rw [if_neg (by decide)] at hm2
              go_quiet (fail)
              rw [hx.out]
              go_wp2_with (go_at_call 30; first | (refine (HP1.out _).mono ?_; rintro e w' ⟨rfl, rfl⟩) | (refine (HP2.out _).mono ?_; rintro e w' ⟨rfl, rfl⟩))
              go_ret2
              rw [hm2.out]
            · exact ⟨rfl, below_drewN D5.out _⟩
            · exact ⟨rfl, below_drewN D5.out _⟩
          | true =>
            rw [hst] at hp1 hm2
            rw [if_pos rfl] at hm2
            go_quiet (fail)
            rw [hx.out]
            go_wp2_with (go_at_call 30; refine (hp1.out _).mono ?_; rintro e w' ⟨rfl, rfl⟩)
            have hN : n2 + 2 ≤ s.size := by
              have h := of_decide_eq_true hst
              have h1 := congrArg List.length h
              rw [List.length_take] at h1
              have h2 := hrl.out
              simp only [List.length_cons, List.length_nil] at h1
              omega
            have R6 := Lib.hid ((R5.out.next (below_drewN (Below.refl _ _) nq) R5.out.lt).setAt (n2 + 2))
            have P6 := Lib.hid ((P5.out.next (below_drewN (Below.refl _ _) nq) P5.out.lt).off (p := ⟨g, 1, none⟩) (Ne.symm hbg) (.int .i64 (n2 + 2)))
            have L6 : Hid (PcRow _ B 40 v l) := own_setCell (own_keep L5.out (below_drewN (Below.refl _ _) nq) (Nat.le_refl _)) (p := ⟨g, 1, none⟩) hgB (.int .i64 (n2 + 2))
            have D6 := Lib.hid ((below_drewN D5.out nq).setCell (p := ⟨g, 1, none⟩) (Nat.le_refl _) (.int .i64 (n2 + 2)))
            clear x0 x1 y1 p1 p2 f4 c4 R5 P5 L5 D5 hp1 hp2 hx hst
            obtain ⟨w6, hw6⟩ := name_it ((w5.drewN nq).setCell ⟨g, 1, none⟩ (.int .i64 (n2 + 2)))
            rw [hw6.out] at R6 P6 L6 D6
            rw [hw6.out]
            clear hw6 hr hrl
            obtain ⟨n3, hn3⟩ : ∃ n3 : Nat, n3 = n2 + 2 := ⟨_, rfl⟩
            have hn3i : Hid ((n2 : Int) + 2 = (n3 : Int)) := by unfold Hid; omega
            rw [hn3i.out] at R6
            rw [← hn3] at hN hm2
            obtain ⟨m, hmm⟩ : ∃ m : Nat, (m : Int) = b - a := ⟨(b - a).toNat, by omega⟩
            have hmi : Hid (b - a = (m : Int)) := hmm.symm
            rw [hmi.out] at hm2
            rw [hmi.out]
            have hm0 : (m : Int) ≤ 4611686018427387905 := by omega
            have HN3 := Lib.hid hn3
            clear hmm hn3 b1 b2
            obtain ⟨M, hM⟩ : ∃ M : Nat, M = s.size - n3 := ⟨_, rfl⟩
            have hMi : (s.size : Int) - (n3 : Int) = (M : Int) := by omega
            have hMl : (List.drop n3 (L s)).length = M := by rw [List.length_drop, L_length]; exact hM.symm
            rw [hMl] at hm2
            have HM := Lib.hid hM
            clear hM hMl
            have x0 := R6.out.c0
            have x1 := R6.out.c1
            by_cases hlt : (M : Int) < (m : Int)
            · have hm3 : Hid (V = PartR.stop s.size 94) := by unfold Hid; rw [hm2.out]; exact if_pos hlt
              clear hm2
              go_quiet (fail)
              go_wp2_with fail
              go_ret2
              rw [hm3.out]
              exact ⟨rfl, below_drewN D6.out _⟩
            · have hm3 : Hid (V = PartR.go ⟨k, a, b, z, ((L s).drop n3).take m⟩ (14 + k.length + 2 + (15 + t.length + 2) + 2 + m)) := by
                unfold Hid; rw [hm2.out]
                exact if_neg hlt
              clear hm2
              go_quiet (fail)
              go_wp2_with fail
              have q1 : (0 : Int) ≤ (n3 : Int) := by omega
              have q2 : (0 : Int) ≤ (m : Int) := by omega
              have q3 : (n3 : Int) + (m : Int) ≤ (s.size : Int) := by omega
              have f4 := P6.out.f4
              have c4 := P6.out.c4
              clear hMi hlt
              go_region
              have R7 := Lib.hid ((R6.out.next (below_drewN (Below.refl _ _) (nq + 1)) R6.out.lt).off (p := ⟨b7, 4, none⟩) hbg (.string (s.extract n3 (n3 + m))))
              have P7 := Lib.hid ((P6.out.next (below_drewN (Below.refl _ _) (nq + 1)) P6.out.lt).set4 (s.extract n3 (n3 + m)))
              have L7 : Hid (PcRow _ B 40 v l) := own_setCell2 (own_keep L6.out (below_drewN (Below.refl _ _) (nq + 1)) (Nat.le_refl _)) (p := ⟨b7, 4, none⟩) V7.out (.string (s.extract n3 (n3 + m)))
              have D7 := Lib.hid ((below_drewN D6.out (nq + 1)).setCell (p := ⟨b7, 4, none⟩) (by show g ≤ b7; omega) (.string (s.extract n3 (n3 + m))))
              clear x0 x1 f4 c4 R6 P6 L6 D6
              obtain ⟨body, hbody⟩ := name_it (s.extract n3 (n3 + m))
              rw [hbody.out] at R7 P7 L7 D7
              rw [hbody.out]
              obtain ⟨w7, hw7⟩ := name_it ((w6.drewN (nq + 1)).setCell ⟨b7, 4, none⟩ (.string body))
              rw [hw7.out] at R7 P7 L7 D7
              rw [hw7.out]
              clear hw7
              obtain ⟨n4, hn4⟩ : ∃ n4 : Nat, n4 = n3 + m := ⟨_, rfl⟩
              have hn4i : Hid ((n3 : Int) + (m : Int) = (n4 : Int)) := by unfold Hid; omega
              have HN4 := Lib.hid hn4
              clear hn4
              have x1 := R7.out.c1
              have y1 := R7.out.f1
              go_wp2_with fail
              rw [hn4i.out]
              have R8 := Lib.hid (R7.out.setAt n4)
              have P8 := Lib.hid (P7.out.off (p := ⟨g, 1, none⟩) (Ne.symm hbg) (.int .i64 n4))
              have L8 : Hid (PcRow _ B 40 v l) := own_setCell L7.out (p := ⟨g, 1, none⟩) hgB (.int .i64 n4)
              have D8 := Lib.hid (D7.out.setCell (p := ⟨g, 1, none⟩) (Nat.le_refl _) (.int .i64 n4))
              clear x1 y1 R7 P7 L7 D7
              obtain ⟨w8, hw8⟩ := name_it (w7.setCell ⟨g, 1, none⟩ (.int .i64 n4))
              rw [hw8.out] at R8 P8 L8 D8
              rw [hw8.out]
              clear hw8
              have x2 := R8.out.c2
              have y2 := R8.out.f2
              have k0 := P8.out.c0
              have k1 := P8.out.c1
              have k2 := P8.out.c2
              have k3 := P8.out.c3
              have k4 := P8.out.c4
              have hlt8 := P8.out.lt
              obtain ⟨i0, hi, hz0, hz1, hz2⟩ := info_parts infoPiece
              have L9 : Hid (PcRow w8.drew B 40 v l) := own_keep L8.out ((Below.refl _ _).drew) (Nat.le_refl _)
              have HU : Hid (∀ u ∈ [Value.string kb, .int .i64 a, .int .i64 b, .int .i64 z, .string body], u.oneCell' = true) := by
                intro u hu
                simp only [List.mem_cons, List.not_mem_nil, or_false] at hu
                rcases hu with rfl | rfl | rfl | rfl | rfl <;> rfl
              have hB8 : B ≤ w8.drew.heap.size := by show B ≤ w8.heap.size; omega
              have R9 := Lib.hid (R8.out.next ((Below.refl w8.heap.size w8).drew) R8.out.lt)
              have xa := (R9.out.next ((Below.refl w8.drew.heap.size w8.drew).alloc (Nat.le_refl _) (.cells #[.string kb, .int .i64 a, .int .i64 b, .int .i64 z, .string body] 40)) R9.out.lt).c2
              have hgl := R8.out.lt
              have hne8 : ¬ g = w8.heap.size := by omega
              go_region_law ((refine step_append5 (by rfl) _ _ 34 (by rfl) B 40 i0 (.agg #[.string ⟨#[]⟩, .int .i64 0, .int .i64 0, .int .i64 0, .string ⟨#[]⟩]) 56 Tryz.underlying34 hi hz0 hz1 hz2 rfl L9.out (by rfl) (.string kb) (.int .i64 a) (.int .i64 b) (.int .i64 z) (.string body) HU.out (by rfl) (by unfold maxLen; omega) (by omega) hB8 ?_; intro g9 cap9 w9 hg9 hown9 hb9 hk9; have x9 := (hb9.cell (p := ⟨g, 2, none⟩) hgB).trans R9.out.c2; have y9 := (hb9.frozen (p := ⟨g, 2, none⟩) hgB).trans R9.out.f2))
              all_goals
                have R10 := Lib.hid ((R9.out.next hb9 hgB).setL (.slice (some ⟨g9, 0, none⟩) (l.length + 1) cap9))
                have D10 := Lib.hid (((D8.out.trans ((Below.refl g w8).drew)).trans (hb9.mono (Nat.le_of_lt hgB))).setCell (p := ⟨g, 2, none⟩) (Nat.le_refl _) (.slice (some ⟨g9, 0, none⟩) (l.length + 1) cap9))
                have L10 : Hid (PcRow (w9.setCell ⟨g, 2, none⟩ (.slice (some ⟨g9, 0, none⟩) (l.length + 1) cap9)) B 40 (.slice (some ⟨g9, 0, none⟩) (l.length + 1) cap9) (l ++ [⟨k, a, b, z, ((L s).drop n3).take m⟩])) := by
                  have hbd : bs (((L s).drop n3).take m) = body := by
                    rw [← hbody.out, extract_bs, List.drop_take, Nat.add_sub_cancel_left]
                  unfold Hid PcRow
                  rw [cellsP_snoc, List.length_append, List.length_singleton]
                  unfold encP
                  simp only []
                  rw [hbd, hkb.out]
                  exact own_setCell hown9 (p := ⟨g, 2, none⟩) hgB _
                clear hown9 hb9 hk9 x2 y2 k0 k1 k2 k3 k4 hlt8 xa
                go_wp2_with fail
                go_ret2
                rw [hm3.out]
                refine ⟨rfl, _, ?_, L10.out, D10.out⟩
                have he : n + (14 + k.length + 2 + (15 + t.length + 2) + 2 + m) = n4 := by
                  have h1 := HN1.out
                  have h2 := HN2.out
                  have h3 := HN3.out
                  have h4 := HN4.out
                  omega
                rw [he]
                exact R10.out
end Go.Proofs.YtnodboggemggmaaGreatDoor
