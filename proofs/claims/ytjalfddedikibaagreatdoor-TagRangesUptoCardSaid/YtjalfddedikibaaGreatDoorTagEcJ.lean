/- TagRanges: the walk of the law. -/
import Derived.Test.YtjalfddedikibaaGreatDoorTagEbJ
namespace Go.Proofs.YtjalfddedikibaaGreatDoor
open Go Go.RowKit
set_option maxHeartbeats 8000000

set_option maxRecDepth 100000 in
theorem lawRanges_any (M : ByteArray) (va : Value) (l : List Fd) (now : Int) (s : Sta) (w : World) (hE : EnvS w) (hv : FdSl w va l) (hl : fSum l ≤ 1048576) :
    Calls Tryz.prog 4 #[.agg #[.string M, va, .int .i64 now], encSt s] w fun e w' => e = .returned (.bool true) ∧ Below w.heap.size w w' := by
  obtain ⟨p, cap, hpv⟩ : ∃ p cap, va = .slice p l.length cap := by obtain ⟨p, cap, h, _⟩ := hv; exact ⟨p, cap, h⟩
  subst hpv
  have A0 := Lib.hid (AP.first (M := M) (s := s) (now := now) hE hv)
  have AW := Lib.hid (awake_any _ A0.out.env)
  have hl2 := fSum_len l
  have HLL : Hid (l.length ≤ 1048576) := by unfold Hid; omega
  have HL := Lib.hid hl
  have DE := Lib.hid (fun v W (h1 : EnvS W) (h2 : FdSl W v l) => ranged_any v l s now W h1 h2 hl)
  have RD := Lib.hid (fun v W (h2 : FdSl W v l) => rranged_any v l s now W h2 hl)
  have PL := Lib.hid (fun v W (h2 : FdSl W v l) => plain_any v l W h2 HLL.out)
  have SA := Lib.hid (fun W => state_any s W)
  obtain ⟨n, hn⟩ := name_it (rangedT s now (valuesF l nmIR))
  rw [hn.out] at DE RD
  unfold encSt at DE RD SA ⊢
  unfold stateC at A0 AW
  have CA : Hid (∀ W, AP w W w.heap.size (w.heap.size + 1) M (.slice p l.length cap) l s now → APc w.heap.size (w.heap.size + 1) M (.slice p l.length cap) s now (bs s.tag.2) W) := fun W h => h.cells
  obtain ⟨X, hX⟩ := name_it (bs s.tag.2)
  simp only [hX.out] at A0 AW DE RD SA CA ⊢
  clear hE hv hl hl2 hn hX
  go_enter Tryz.func4, Tryz.ntmps4
  go_wp2_with fail
  obtain ⟨w0, hw0⟩ := name_it ((w.alloc (.cells #[.string M, .slice p l.length cap, .int .i64 now] tAsk)).alloc (.cells #[.bool s.there, .bool s.tag.1, .string X, .bool s.tagged, .int .i64 s.time, .bool s.timed] tSt))
  rw [hw0.out] at A0 AW ⊢
  obtain ⟨m2, hm2⟩ := name_it (w.heap.size + 1)
  rw [hm2.out] at A0 CA ⊢
  obtain ⟨m1, hm1⟩ := name_it w.heap.size
  rw [hm1.out] at A0 CA ⊢
  clear hw0 hm2
  refine AW.out.mono ?_; rintro e w1 ⟨rfl, b1⟩
  have A1 := Lib.hid (A0.out.next b1)
  clear b1 A0 AW
  have hd1 : Below w1.heap.size w1 w1.drew := (Below.refl _ _).drew
  have A1d := Lib.hid (A1.out.next hd1)
  have K1 : Hid ((w1.drew.alloc (.cells #[] tF)).ownsRow w1.heap.size tF 2 (.slice (some ⟨w1.heap.size, 0, none⟩) 0 0) 0 []) := own_none2 w1.drew w1.heap.size tF (Nat.le_refl _)
  have F1 : Hid (FdSl (w1.drew.alloc (.cells #[] tF)) (.slice p l.length cap) l) := A1d.out.fd.next ((Below.refl _ _).alloc (Nat.le_refl _) _)
  have KX : Hid (Below w1.heap.size w1 (w1.drew.alloc (.cells #[] tF))) := hd1.alloc hd1.size _
  have AX : Hid (AP w (w1.drew.alloc (.cells #[] tF)) m1 m2 M (.slice p l.length cap) l s now) := A1.out.next KX.out
  clear hd1
  go_wp2_with fail
  all_goals (try (exfalso; omega))
  go_region_held3 (fun W => W.cell? ⟨m1, 0, none⟩ = some (.string M) ∧ W.cell? ⟨m1, 1, none⟩ = some (.slice p l.length cap) ∧ W.cell? ⟨m1, 2, none⟩ = some (.int .i64 now) ∧ W.cell? ⟨m2, 0, none⟩ = some (.bool s.there) ∧ W.cell? ⟨m2, 1, none⟩ = some (.bool s.tag.1) ∧ W.cell? ⟨m2, 2, none⟩ = some (.string X) ∧ W.cell? ⟨m2, 3, none⟩ = some (.bool s.tagged) ∧ W.cell? ⟨m2, 4, none⟩ = some (.int .i64 s.time) ∧ W.cell? ⟨m2, 5, none⟩ = some (.bool s.timed))
    (first | with_reducible exact CA.out _ L5.out | with_reducible exact CA.out _ A1d.out | exact CA.out _ AX.out | go_keep)
    (first
      | (refine step_append_fd (by rfl) _ _ (by rfl) (by rfl) K1.out F1.out (by rfl) HLL.out KX.out.size ?_; intro v7 w7 hown7 b7; have L5 : Hid (AP w w7 m1 m2 M (.slice p l.length cap) l s now) := A1.out.next (KX.out.trans b7); have F7 : Hid (FdSl w7 v7 l) := fd_of_row hown7; clear hown7)
      | (go_at_call 12; refine (DE.out _ _ L5.out.env F7.out).mono ?_; rintro e w8 ⟨rfl, b8⟩; have L5 := Lib.hid (L5.out.next b8))
      | (go_at_call 10; refine (PL.out _ _ L5.out.fd).mono ?_; rintro e w9 ⟨⟨v9, rfl, f9⟩, b9⟩; have L5 := Lib.hid (L5.out.next b9); have F9 := Lib.hid f9)
      | (go_at_call 11; refine (SA.out _).mono ?_; rintro e w10 ⟨rfl, b10⟩; have L5 := Lib.hid (L5.out.next b10); have F9 := Lib.hid (F9.out.next b10))
      | (go_at_call 13; refine (RD.out _ _ F9.out).mono ?_; rintro e w11 ⟨rfl, b11⟩; have L5 := Lib.hid (L5.out.next b11)))
  all_goals (try (exfalso; omega))
  all_goals
    go_wp2_with fail
    go_ret
    exact ⟨ret_bool (by simp), L5.out.below⟩
end Go.Proofs.YtjalfddedikibaaGreatDoor
