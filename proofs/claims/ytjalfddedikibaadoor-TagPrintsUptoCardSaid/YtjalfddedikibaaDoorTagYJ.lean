/- TagPrints: the walk of the law. -/
import Derived.Test.YtjalfddedikibaaDoorTagXJ
namespace Go.Proofs.YtjalfddedikibaaDoor
open Go Go.RowKit Go.Sort
set_option maxHeartbeats 8000000

theorem refG (b : Bool) (X : ByteArray) (w : World) : Calls Tryd.prog 11 #[.agg #[.bool b, .string X]] w fun e w' => e = .returned (.agg #[.bool b, .string X]) ∧ ∃ q os, w' = Sort.grow (w.drewN q) os := ref_any (b, L X) w
theorem strongG (b c : Bool) (X Y : ByteArray) (w : World) : Calls Tryd.prog 20 #[.agg #[.bool b, .string X], .agg #[.bool c, .string Y]] w fun e w' => e = .returned (.bool (strongT (b, L X) (c, L Y))) ∧ ∃ q os, w' = Sort.grow (w.drewN q) os := strong_any (b, L X) (c, L Y) w
theorem rstrongG (b c : Bool) (X Y : ByteArray) (w : World) : Calls Tryd.prog 21 #[.agg #[.bool b, .string X], .agg #[.bool c, .string Y]] w fun e w' => e = .returned (.bool (strongT (b, L X) (c, L Y))) ∧ ∃ q os, w' = Sort.grow (w.drewN q) os := rstrong_any (b, L X) (c, L Y) w
theorem alikeG (b c : Bool) (X Y : ByteArray) (w : World) : Calls Tryd.prog 22 #[.agg #[.bool b, .string X], .agg #[.bool c, .string Y]] w fun e w' => e = .returned (.bool (alikeT (b, L X) (c, L Y))) ∧ ∃ q os, w' = Sort.grow (w.drewN q) os := alike_any (b, L X) (c, L Y) w
theorem ralikeG (b c : Bool) (X Y : ByteArray) (w : World) : Calls Tryd.prog 23 #[.agg #[.bool b, .string X], .agg #[.bool c, .string Y]] w fun e w' => e = .returned (.bool (alikeT (b, L X) (c, L Y))) ∧ ∃ q os, w' = Sort.grow (w.drewN q) os := ralike_any (b, L X) (c, L Y) w

set_option maxRecDepth 100000 in
theorem lawPrints_any (b : Bool) (X : ByteArray) (c : Bool) (Y : ByteArray) (w : World) (hE : EnvS w) (hX : X.size ≤ 1048576) :
    Calls Tryd.prog 6 #[.agg #[.bool b, .string X], .agg #[.bool c, .string Y]] w fun e w' => e = .returned (.bool true) ∧ Below w.heap.size w w' := by
  have PR := Lib.hid (fun wx => tprint_any b X wx (by omega))
  have RP := Lib.hid (fun wx => rtprint_any b X wx (by omega))
  obtain ⟨S, e0, hp⟩ : ∃ S e0, prV (b, L X) = .tuple #[.string S, .int .i64 e0] := by
    unfold prV; split
    · exact ⟨_, _, rfl⟩
    · exact ⟨_, _, rfl⟩
  rw [hp] at PR RP
  have z1 : (w.alloc (.cells #[.bool b, .string X] tT)).heap.size = w.heap.size + 1 := Array.size_push ..
  have hb0 : Below w.heap.size w ((w.alloc (.cells #[.bool b, .string X] tT)).alloc (.cells #[.bool c, .string Y] tT)) := bel2 w _ _
  have A0 : Hid (Blk ((w.alloc (.cells #[.bool b, .string X] tT)).alloc (.cells #[.bool c, .string Y] tT)) w.heap.size tT #[.bool b, .string X]) := (Blk.new w tT _).alloc _
  have C0 : Hid (Blk ((w.alloc (.cells #[.bool b, .string X] tT)).alloc (.cells #[.bool c, .string Y] tT)) (w.heap.size + 1) tT #[.bool c, .string Y]) := by
    have h := Blk.new (w.alloc (.cells #[.bool b, .string X] tT)) tT #[.bool c, .string Y]
    rw [z1] at h; exact h
  have AW := Lib.hid (awake_any _ (hE.next hb0))
  have B0 := Lib.hid hb0
  clear hp hE hX hb0 z1
  go_enter Tryd.func6, Tryd.ntmps6
  go_wp2_with fail
  obtain ⟨m2, hm2⟩ := name_it (w.heap.size + 1)
  rw [hm2.out] at C0 ⊢
  obtain ⟨m1, hm1⟩ := name_it w.heap.size
  rw [hm1.out] at A0 ⊢
  obtain ⟨w0, hw0⟩ := name_it ((w.alloc (.cells #[.bool b, .string X] tT)).alloc (.cells #[.bool c, .string Y] tT))
  rw [hw0.out] at A0 C0 AW B0 ⊢
  clear hm1 hm2 hw0
  refine AW.out.mono ?_; rintro e w1 ⟨rfl, b1⟩
  have A1 := Lib.hid (A0.out.below b1 A0.out.lt)
  have C1 := Lib.hid (C0.out.below b1 C0.out.lt)
  have B1 := Lib.hid (B0.out.trans (b1.mono B0.out.size))
  clear b1 AW A0 C0 B0
  have c1 : w1.cell? ⟨m1, 0, none⟩ = some (.bool b) := A1.out.cell 0
  have c2 : w1.cell? ⟨m1, 1, none⟩ = some (.string X) := A1.out.cell 1
  go_wp2_with fail
  refine (PR.out _).mono ?_; rintro e w2 ⟨rfl, b2⟩
  have A2 := Lib.hid (A1.out.below b2 A1.out.lt)
  have C2 := Lib.hid (C1.out.below b2 C1.out.lt)
  have B2 := Lib.hid (B1.out.trans (b2.mono B1.out.size))
  clear b2 A1 C1 B1 c1 c2 PR
  have c1 : w2.cell? ⟨m1, 0, none⟩ = some (.bool b) := A2.out.cell 0
  have c2 : w2.cell? ⟨m1, 1, none⟩ = some (.string X) := A2.out.cell 1
  go_wp2_with fail
  refine (refG b X _).mono ?_; rintro e w3 ⟨rfl, q3, os3, h3⟩
  have b3 : Below w2.heap.size w2 w3 := by rw [h3]; exact below_grow q3 os3
  have A3 := Lib.hid (A2.out.below b3 A2.out.lt)
  have C3 := Lib.hid (C2.out.below b3 C2.out.lt)
  have B3 := Lib.hid (B2.out.trans (b3.mono B2.out.size))
  clear b3 h3 A2 C2 B2 c1 c2
  go_wp2_with fail
  refine (RP.out _).mono ?_; rintro e w5 ⟨rfl, b5⟩
  have A5 := Lib.hid (A3.out.below b5 A3.out.lt)
  have C5 := Lib.hid (C3.out.below b5 C3.out.lt)
  have B5 := Lib.hid (B3.out.trans (b5.mono B3.out.size))
  clear b5 A3 C3 B3 RP
  go_wp2_with fail
  have mixed : Tryd.prog.follows .mixedOrders = true := by kernel_rfl
  have h1 := A5.out.lt
  have h2 := C5.out.lt
  have x1 : ∀ k os, (Sort.grow (w5.drewN k) os).cell? ⟨m1, 0, none⟩ = some (.bool b) := cell_grown (a := ⟨m1, 0, none⟩) h1 (A5.out.cell 0)
  have x2 : ∀ k os, (Sort.grow (w5.drewN k) os).cell? ⟨m1, 1, none⟩ = some (.string X) := cell_grown (a := ⟨m1, 1, none⟩) h1 (A5.out.cell 1)
  have y1 : ∀ k os, (Sort.grow (w5.drewN k) os).cell? ⟨m2, 0, none⟩ = some (.bool c) := cell_grown (a := ⟨m2, 0, none⟩) h2 (C5.out.cell 0)
  have y2 : ∀ k os, (Sort.grow (w5.drewN k) os).cell? ⟨m2, 1, none⟩ = some (.string Y) := cell_grown (a := ⟨m2, 1, none⟩) h2 (C5.out.cell 1)
  refine wp_region_quiet_grown (by assumption) (by kernel_rfl) ?_
  repeat (go_big_quiet_step (first | (go_at_call 11; exact (refG _ _ _).grown_of) | (go_at_call 20; exact (strongG _ _ _ _ _).grown_of) | (go_at_call 21; exact (rstrongG _ _ _ _ _).grown_of) | (go_at_call 22; exact (alikeG _ _ _ _ _).grown_of) | (go_at_call 23; exact (ralikeG _ _ _ _ _).grown_of)))
  refine wpQuiet_nil ?_
  intro _ hw'
  obtain ⟨⟨nq, osq⟩, hw''⟩ := hw'
  subst hw''
  have B6 := Lib.hid (B5.out.trans ((below_grow (w := w5) nq osq).mono B5.out.size))
  obtain ⟨wE, hwE⟩ := name_it (Sort.grow (w5.drewN nq) osq)
  rw [hwE.out] at B6
  dsimp only
  rw [hwE.out]
  clear x1 x2 y1 y2 hwE
  go_wp2_with fail
  go_ret
  exact ⟨ret_bool (by simp), B6.out⟩
end Go.Proofs.YtjalfddedikibaaDoor
