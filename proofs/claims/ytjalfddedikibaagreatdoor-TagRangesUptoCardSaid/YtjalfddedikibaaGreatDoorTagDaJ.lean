/- TagDecides: the walk of the law. -/
import Derived.Test.YtjalfddedikibaaGreatDoorMh
import Derived.Test.YtjalfddedikibaaGreatDoorMd
import Derived.Test.YtjalfddedikibaaGreatDoorTagRcJ
import Derived.Test.YtjalfddedikibaaGreatDoorTagRdJ
import Derived.BigQuiet
namespace Go.Proofs.YtjalfddedikibaaGreatDoor
open Go Go.RowKit
set_option maxHeartbeats 8000000

set_option maxRecDepth 100000 in
theorem lawDecides_any (M : ByteArray) (va : Value) (l : List Fd) (now : Int) (s : Sta) (w : World) (hE : EnvS w) (hv : FdSl w va l) (hl : fSum l ≤ 1048576) :
    Calls Tryz.prog 3 #[.agg #[.string M, va, .int .i64 now], encSt s] w fun e w' => e = .returned (.bool true) ∧ Below w.heap.size w w' := by
  obtain ⟨p, cap, hpv⟩ : ∃ p cap, va = .slice p l.length cap := by obtain ⟨p, cap, h, _⟩ := hv; exact ⟨p, cap, h⟩
  subst hpv
  have A0 := Lib.hid (AP.first (M := M) (s := s) (now := now) hE hv)
  have AW := Lib.hid (awake_any _ A0.out.env)
  have hl2 := fSum_len l
  have HLL : Hid (l.length ≤ 1048576) := by unfold Hid; omega
  have HL := Lib.hid hl
  have DE := Lib.hid (fun v W (h1 : EnvS W) (h2 : FdSl W v l) => decide_any M v l s now W h1 h2 hl)
  have RD := Lib.hid (fun v W (h2 : FdSl W v l) => rdecide_any M v l s now W h2 hl)
  have PL := Lib.hid (fun v W (h2 : FdSl W v l) => plain_any v l W h2 HLL.out)
  have SA := Lib.hid (fun W => state_any s W)
  rw [← decide_eq] at RD
  obtain ⟨n, hn⟩ := name_it (decideT (readsT (L M)) s now l)
  rw [hn.out] at DE RD
  unfold encSt at DE RD SA ⊢
  unfold stateC at A0 AW
  have CA : Hid (∀ W, AP w W w.heap.size (w.heap.size + 1) M (.slice p l.length cap) l s now → APc w.heap.size (w.heap.size + 1) M (.slice p l.length cap) s now (bs s.tag.2) W) := fun W h => h.cells
  obtain ⟨X, hX⟩ := name_it (bs s.tag.2)
  simp only [hX.out] at A0 AW DE RD SA CA ⊢
  clear hE hv hl hl2 hn hX
  go_enter Tryz.func3, Tryz.ntmps3
  go_wp2_with fail
  obtain ⟨w0, hw0⟩ := name_it ((w.alloc (.cells #[.string M, .slice p l.length cap, .int .i64 now] tAsk)).alloc (.cells #[.bool s.there, .bool s.tag.1, .string X, .bool s.tagged, .int .i64 s.time, .bool s.timed] tSt))
  rw [hw0.out] at A0 AW ⊢
  obtain ⟨m2, hm2⟩ := name_it (w.heap.size + 1)
  rw [hm2.out] at A0 CA ⊢
  obtain ⟨m1, hm1⟩ := name_it w.heap.size
  rw [hm1.out] at A0 CA ⊢
  clear hw0 hm2
  refine AW.out.mono ?_; rintro e w1 ⟨rfl, b1⟩
  have A1 := Lib.hid (A0.out.next b1)
  clear b1 A0 AW
  obtain ⟨x0, x1, x2, x3, x4, x5, x6, x7, x8⟩ := CA.out w1 A1.out
  have K1 : Hid ((w1.alloc (.cells #[] tF)).ownsRow w1.heap.size tF 2 (.slice (some ⟨w1.heap.size, 0, none⟩) 0 0) 0 []) := own_none2 w1 w1.heap.size tF (Nat.le_refl _)
  have KX : Hid (Below w1.heap.size w1 (w1.alloc (.cells #[] tF))) := (Below.refl _ _).alloc (Nat.le_refl _) _
  have F1 : Hid (FdSl (w1.alloc (.cells #[] tF)) (.slice p l.length cap) l) := A1.out.fd.next KX.out
  have AX := Lib.hid (A1.out.next KX.out)
  obtain ⟨y0, y1, y2, y3, y4, y5, y6, y7, y8⟩ := CA.out _ AX.out
  go_wp2_with (at_builtin; (refine append_fd rfl _ _ rfl rfl K1.out F1.out rfl HLL.out KX.out.size ?_))
  intro v3 w3 hown3 b3
  have O3 := Lib.hid hown3
  have A3 := Lib.hid (A1.out.next (KX.out.trans b3))
  have B3 : Hid (Below w1.heap.size w1 w3) := KX.out.trans b3
  obtain ⟨so, co, hv3⟩ := row_slice hown3
  subst hv3
  clear hown3 b3 K1 KX F1 AX x0 x1 x2 x3 x4 x5 x6 x7 x8 y0 y1 y2 y3 y4 y5 y6 y7 y8
  obtain ⟨i0, hi, hz0, hz1, hz2⟩ := info_parts infoF
  have hlb : l.length ≤ 1048576 := HLL.out
  go_wp2_with (at_builtin; (refine appendC rfl _ _ 22 rfl w1.heap.size tF i0 (.agg #[.string ⟨#[]⟩, .string ⟨#[]⟩]) 2 32 Tryz.underlying22 hi hz0 hz1 hz2 rfl (by decide) O3.out rfl #[.string ⟨#[115, 112, 97, 114, 101]⟩, .string ⟨#[]⟩] rfl (by intro u hu; simp only [List.mem_cons, List.not_mem_nil, or_false] at hu; rcases hu with rfl | rfl <;> rfl) rfl (by first | rfl | (simp; done)) ?_ ?_ ?_ ?_))
  · unfold maxLen; omega
  · omega
  · exact B3.out.size
  intro g c4 w4 hown4 b4
  have A4 : Hid (AP w w4 m1 m2 M (.slice p l.length cap) l s now) := A1.out.next (B3.out.trans b4)
  have hcap : l.length + 1 ≤ c4 := by
    rcases hown4.2 with ⟨_, h0⟩ | ⟨g', cap', cur, h, _, _, hnc, _⟩
    · omega
    · injection h with _ _ h3; omega
  have FR : Hid (∀ j (h : j < l.length), g < w4.heap.size ∧ w4.cell? ⟨g, j * 2, none⟩ = some (.string (bs l[j].1)) ∧ w4.cell? ⟨g, j * 2 + 1, none⟩ = some (.string (bs l[j].2))) := by
    intro j hj
    have hg := (World.ownsRow.lt hown4 g rfl).2
    have h1 := rowFd_get l j hj
    have h2 := hown4.cellAt (j * 2) (by omega)
    have h3 := hown4.cellAt (j * 2 + 1) (by omega)
    rw [List.getElem?_append_left (by rw [rowFd_len]; omega)] at h2 h3
    exact ⟨hg, h2.trans h1.1, h3.trans h1.2⟩
  have FL : Hid (g < w4.heap.size ∧ w4.cell? ⟨g, l.length * 2, none⟩ = some (.string ⟨#[115, 112, 97, 114, 101]⟩)) := by
    have hg := (World.ownsRow.lt hown4 g rfl).2
    have h2 := hown4.cellAt (l.length * 2) (by omega)
    rw [List.getElem?_append_right (by rw [rowFd_len]; omega), rowFd_len, Nat.sub_self] at h2
    exact ⟨hg, h2⟩
  have F4 : Hid (FdSl w4 (.slice (some ⟨g, 0, none⟩) l.length c4) l) := ⟨_, _, rfl, fun j hj => by
    obtain ⟨h0, h1, h2⟩ := FR.out j hj
    exact ⟨g, 0, rfl, h0, by rw [Nat.zero_add]; exact h1, by rw [Nat.zero_add]; exact h2⟩⟩
  clear hown4 b4 O3 A3 B3 A1 hi hz0 hz1 hz2
  have hd4 : Below w4.heap.size w4 w4.drew := (Below.refl _ _).drew
  have B4d := Lib.hid hd4
  have A4d := Lib.hid (A4.out.next hd4)
  have F4d := Lib.hid (F4.out.next hd4)
  have hc4 : (l.length : Int) ≤ (c4 : Int) := by omega
  have hc5 : l.length ≤ c4 := by omega
  have hn0 : (0 : Int) ≤ (l.length : Int) := by omega
  go_wp2_with fail
  all_goals (try (exfalso; omega))
  go_region_held3 (fun W => W.cell? ⟨m1, 0, none⟩ = some (.string M) ∧ W.cell? ⟨m1, 1, none⟩ = some (.slice p l.length cap) ∧ W.cell? ⟨m1, 2, none⟩ = some (.int .i64 now) ∧ W.cell? ⟨m2, 0, none⟩ = some (.bool s.there) ∧ W.cell? ⟨m2, 1, none⟩ = some (.bool s.tag.1) ∧ W.cell? ⟨m2, 2, none⟩ = some (.string X) ∧ W.cell? ⟨m2, 3, none⟩ = some (.bool s.tagged) ∧ W.cell? ⟨m2, 4, none⟩ = some (.int .i64 s.time) ∧ W.cell? ⟨m2, 5, none⟩ = some (.bool s.timed))
    (first | with_reducible exact CA.out _ L5.out | with_reducible exact CA.out _ A4d.out | go_keep)
    ((go_at_call 8; refine (DE.out _ _ A4d.out.env F4d.out).mono ?_; rintro e w8 ⟨rfl, b8⟩; have L5 := Lib.hid (A4d.out.next b8)))
  all_goals (try (exfalso; omega))
  have B8 : Hid (Below w4.heap.size w4 w8) := B4d.out.trans (b8.mono B4d.out.size)
  have hd8 : Below w8.heap.size w8 w8.drew := (Below.refl _ _).drew
  have A8d := Lib.hid (L5.out.next hd8)
  have B8d : Hid (Below w4.heap.size w4 w8.drew) := B8.out.trans (hd8.mono B8.out.size)
  clear b8 B8 L5 A4d F4d hd8 hd4 B4d F4 DE
  go_wp2_with fail
  all_goals (try (exfalso; omega))
  go_region_held3 (fun W => W.cell? ⟨m1, 0, none⟩ = some (.string M) ∧ W.cell? ⟨m1, 1, none⟩ = some (.slice p l.length cap) ∧ W.cell? ⟨m1, 2, none⟩ = some (.int .i64 now) ∧ W.cell? ⟨m2, 0, none⟩ = some (.bool s.there) ∧ W.cell? ⟨m2, 1, none⟩ = some (.bool s.tag.1) ∧ W.cell? ⟨m2, 2, none⟩ = some (.string X) ∧ W.cell? ⟨m2, 3, none⟩ = some (.bool s.tagged) ∧ W.cell? ⟨m2, 4, none⟩ = some (.int .i64 s.time) ∧ W.cell? ⟨m2, 5, none⟩ = some (.bool s.timed))
    (first | with_reducible exact CA.out _ L9.out | with_reducible exact CA.out _ A8d.out | go_keep)
    (first
      | (go_at_call 10; refine (PL.out _ _ A8d.out.fd).mono ?_; rintro e w9 ⟨⟨v9, rfl, f9⟩, b9⟩; have L9 := Lib.hid (A8d.out.next b9); have F9 := Lib.hid f9; have B9 : Hid (Below w4.heap.size w4 w9) := B8d.out.trans (b9.mono B8d.out.size))
      | (go_at_call 11; refine (SA.out _).mono ?_; rintro e w10 ⟨rfl, b10⟩; have L9 := Lib.hid (L9.out.next b10); have F9 := Lib.hid (F9.out.next b10); have B9 : Hid (Below w4.heap.size w4 w10) := B9.out.trans (b10.mono B9.out.size))
      | (go_at_call 9; refine (RD.out _ _ F9.out).mono ?_; rintro e w11 ⟨rfl, b11⟩; have L9 := Lib.hid (L9.out.next b11); have B9 : Hid (Below w4.heap.size w4 w11) := B9.out.trans (b11.mono B9.out.size)))
  all_goals (try (exfalso; omega))
  have A11 := L9
  have B11 := B9
  have HFD : Hid (∀ j (h : j < l.length), ∃ b off, p = some ⟨b, off, none⟩ ∧ b < w11.heap.size ∧ w11.cell? ⟨b, off + j * 2, none⟩ = some (.string (bs l[j].1)) ∧ w11.cell? ⟨b, off + j * 2 + 1, none⟩ = some (.string (bs l[j].2))) := by
    obtain ⟨p', cap', he, hc⟩ := A11.out.fd
    injection he with e1 e2 e3
    subst e1
    exact hc
  have FR11 : Hid (∀ j (h : j < l.length), g < w11.heap.size ∧ w11.cell? ⟨g, j * 2, none⟩ = some (.string (bs l[j].1)) ∧ w11.cell? ⟨g, j * 2 + 1, none⟩ = some (.string (bs l[j].2))) := fun j hj => by
    obtain ⟨h0, h1, h2⟩ := FR.out j hj
    exact ⟨Nat.lt_of_lt_of_le h0 B11.out.size, (B11.out.cell (p := ⟨g, j * 2, none⟩) h0).trans h1, (B11.out.cell (p := ⟨g, j * 2 + 1, none⟩) h0).trans h2⟩
  have FL11 : Hid (g < w11.heap.size ∧ w11.cell? ⟨g, l.length * 2, none⟩ = some (.string ⟨#[115, 112, 97, 114, 101]⟩)) :=
    ⟨Nat.lt_of_lt_of_le FL.out.1 B11.out.size, (B11.out.cell (p := ⟨g, l.length * 2, none⟩) FL.out.1).trans FL.out.2⟩
  have c1 : w11.cell? ⟨m1, 1, none⟩ = some (.slice p l.length cap) := A11.out.ask.cell 1
  have B0 : Hid (Below w11.heap.size w11 w11) := Below.refl _ _
  clear b9 b10 b11 L9 B9 F9 f9 A8d B8d FR FL PL SA RD A4 B11
  go_wp2_with fail
  all_goals (try (exfalso; omega))
  clear c1
  go_loopw [43] (fun i wr => ∃ k : Nat, k ≤ l.length ∧ i = .int .i64 k ∧ Hid (Below w11.heap.size w11 wr)) (fun i _ => l.length - (intOf i).toNat)
  case atStart => exact ⟨0, Nat.zero_le _, rfl, B0⟩
  clear B0
  case round =>
    obtain ⟨k, hk, rfl, hB⟩ := hrel
    obtain ⟨wq, hwq⟩ : ∃ wq, wq = wr := ⟨wr, rfl⟩
    subst hwq
    by_cases hlt : k < l.length
    · have q0 : (0 : Int) ≤ (k : Int) := by omega
      have q1 : (k : Int) < (l.length : Int) := by omega
      have q2 : (k : Int) < (l.length : Int) + 1 := by omega
      obtain ⟨b, off, rfl, hb, h1, h2⟩ := HFD.out k hlt
      obtain ⟨hg, r1, r2⟩ := FR11.out k hlt
      have c1 : wq.cell? ⟨b, off + k * 2, none⟩ = _ := (hB.out.cell (p := ⟨b, off + k * 2, none⟩) hb).trans h1
      have c2 : wq.cell? ⟨b, off + k * 2 + 1, none⟩ = _ := (hB.out.cell (p := ⟨b, off + k * 2 + 1, none⟩) hb).trans h2
      have d1 : wq.cell? ⟨g, k * 2, none⟩ = _ := (hB.out.cell (p := ⟨g, k * 2, none⟩) hg).trans r1
      have d2 : wq.cell? ⟨g, k * 2 + 1, none⟩ = _ := (hB.out.cell (p := ⟨g, k * 2 + 1, none⟩) hg).trans r2
      obtain ⟨F, hF⟩ := name_it (bs l[k].1)
      obtain ⟨V, hV⟩ := name_it (bs l[k].2)
      rw [hF.out] at c1 d1
      rw [hV.out] at c2 d2
      clear h1 h2 r1 r2 hF hV
      have hal : Below wq.heap.size wq (wq.alloc (.cells #[.string F, .string V] tF)) := (Below.refl _ _).alloc (Nat.le_refl _) _
      have hgq : g < wq.heap.size := Nat.lt_of_lt_of_le hg hB.out.size
      have d1' : (wq.alloc (.cells #[.string F, .string V] tF)).cell? ⟨g, k * 2, none⟩ = some (.string F) := (hal.cell (p := ⟨g, k * 2, none⟩) hgq).trans d1
      have d2' : (wq.alloc (.cells #[.string F, .string V] tF)).cell? ⟨g, k * 2 + 1, none⟩ = some (.string V) := (hal.cell (p := ⟨g, k * 2 + 1, none⟩) hgq).trans d2
      have KB : Hid (Blk (wq.alloc (.cells #[.string F, .string V] tF)) wq.heap.size tF #[.string F, .string V]) := Blk.new wq tF _
      have k1 : (wq.alloc (.cells #[.string F, .string V] tF)).cell? ⟨wq.heap.size, 0, none⟩ = some (.string F) := KB.out.cell 0
      have k2 : (wq.alloc (.cells #[.string F, .string V] tF)).cell? ⟨wq.heap.size, 1, none⟩ = some (.string V) := KB.out.cell 1
      have B1 : Hid (Below w11.heap.size w11 (wq.alloc (.cells #[.string F, .string V] tF))) := hB.out.alloc hB.out.size _
      have hff : (F.toList == F.toList) = true := by simp
      have hvv : (V.toList == V.toList) = true := by simp
      clear hal
      go_wp2_with fail
      all_goals (try (exfalso; omega))
      go_quiet (fail)
      go_wp2_with fail
      all_goals (try (exfalso; omega))
      go_roundw
      case rel => exact ⟨k + 1, by omega, by go_num, below_drewN B1.out _⟩
      case measure => simp [intOf] <;> omega
    · obtain rfl : k = l.length := by omega
      have AQ := Lib.hid (A11.out.next hB.out)
      have c1 : wq.cell? ⟨m1, 1, none⟩ = some (.slice p l.length cap) := AQ.out.ask.cell 1
      have d1 : wq.cell? ⟨g, l.length * 2, none⟩ = some (.string ⟨#[115, 112, 97, 114, 101]⟩) := (hB.out.cell (p := ⟨g, l.length * 2, none⟩) FL11.out.1).trans FL11.out.2
      have hnn : (n == n) = true := by simp
      have q2 : (l.length : Int) < (l.length : Int) + 1 := by omega
      go_wp2_with fail
      all_goals (try (exfalso; omega))
      go_ret
      exact ⟨ret_bool (by simp), AQ.out.below⟩
end Go.Proofs.YtjalfddedikibaaGreatDoor
