/- The stable sort's merge: two sorted neighbours become their stable merge. -/
import Derived.Test.YtkenianfpfamcaaGreatDoorSymAJ
import Derived.Deep.CutBlock
import Derived.Deep.DeepCutAuto
namespace Go.Proofs.YtkenianfpfamcaaGreatDoor
open Go Go.RowKit Go.Sort Go.Shelf Go.Lib
set_option maxHeartbeats 16000000
variable {α : Type} [Inhabited α]

theorem vbool {a b : Bool} (h : a = b) : Value.bool a = Value.bool b := by rw [h]
theorem half_nat (i j : Nat) : ((i : Int) + (j : Int)) / 2 = (((i + j) / 2 : Nat) : Int) := by omega
set_option maxRecDepth 100000 in
theorem sym_left (enc : α → Value) (kk : α → Nat) (cf : α → α → Int) (hcf : ∀ x y, cf x y = (kk y : Int) - kk x) (g : Nat) (cb : Array Value) (blk off cap sz : Nat) (d0 : Array α) (w0 : World)
    (eg : ∀ args w, (callFunc g args).run Tryz.prog w = .ok (.enter g args) w) (hcmp : CmpLays1 Tryz.prog g cb enc cf blk off d0.size w0) (R : Row1 enc w0 blk off d0) (hs : d0.size = sz) (hsz : sz < 4611686018427387904) (A X Y B : List α) (d : Array α) (a m b : Nat) (w : World)
    (h1 : X.length = 1) (hX : X ≠ []) (hY : Y ≠ []) (hd : d = (A ++ (X ++ (Y ++ B))).toArray) (hds : d.size = sz) (hA : A.length = a) (hm : a + X.length = m) (hb : m + Y.length = b) (S : SW enc w0 blk off d w) (hSX : SrtK kk X) (hSY : SrtK kk Y) :
    Calls Tryz.prog 163 #[.slice (some ⟨blk, off, none⟩) sz cap, .int .i64 a, .int .i64 m, .int .i64 b, .func (.func g) #[] cb] w fun e w' => e = .returned (.tuple #[]) ∧ SW enc w0 blk off (A ++ (mrg kk X Y ++ B)).toArray w' := by
  have mixed : Tryz.prog.follows Departure.mixedOrders = true := by kernel_rfl
  have t3 := Tryz.underlying3; have a3 := Tryz.isAgg3; have z3 := Tryz.sizeOf3
  have t22 := Tryz.underlying124; have a22 := Tryz.isAgg124; have z22 := Tryz.sizeOf124
  have a24 := Tryz.isAgg117; have z24 := Tryz.sizeOf117
  have u22 := run_underlying t22
  have hcl0 := R.hO.cells
  simp only [Value.cells] at hcl0
  have hst := R.hO.store Tryz.prog
  have HC : Aside _ := hcmp
  clear hcmp
  have hbs : b ≤ sz := by rw [← hds, hd]; simp; omega
  have hX0 : 0 < X.length := List.length_pos_iff.2 hX
  have hY0 : 0 < Y.length := List.length_pos_iff.2 hY
  have S0 : Aside (SW enc w0 blk off d w) := S
  have HD := Lib.hid hd
  have HCF := Lib.hid hcf
  have HSX := Lib.hid hSX
  have HSY := Lib.hid hSY
  clear S hd hcf hSX hSY hX hY
  have h1z : (m : Int) - (a : Int) = 1 := by omega
  obtain ⟨x, hx⟩ := List.length_eq_one_iff.1 h1
  subst hx
  have hda : d[a]! = x := by rw [HD.out, ← hA]; exact get_mid A (Y ++ B) x
  have F0 : Hid (Found (fun h => !decide (kk x < kk d[h]!)) m b m b) := Found.start _ (by omega)
  go_enter Tryz.func163, Tryz.ntmps163
  go_wp2
  go_loopg [10, 11] (b - m) (fun kx s t wr => ∃ (i j : Nat), s = .int .i64 i ∧ t = .int .i64 j ∧ m ≤ i ∧ i ≤ j ∧ j ≤ b ∧ Hid (Found (fun h => !decide (kk x < kk d[h]!)) m b i j) ∧ j - i ≤ kx ∧ Aside (SW enc w0 blk off d wr))
  case atStart => exact ⟨m, b, rfl, rfl, Nat.le_refl _, by omega, Nat.le_refl _, F0, Nat.le_refl _, S0⟩
  case round =>
    clear S0 F0
    obtain ⟨i, j, rfl, rfl, hi1, hij, hjb, F, hkx, S1⟩ := hrel
    by_cases hlt : i < j
    · have hltz : (i : Int) < (j : Int) := by omega
      have hh := half_nat i j
      obtain ⟨h, hh0⟩ : ∃ h, h = (i + j) / 2 := ⟨_, rfl⟩
      rw [← hh0] at hh
      have h2 : i ≤ h := by omega
      have h3 : h < j := by omega
      clear hh0
      by_cases hv : kk x < kk d[h]!
      · have hv2 : cf d[h]! d[a]! < 0 := by rw [HCF.out, hda]; omega
        obtain ⟨iN1, hiN1⟩ : ∃ q, q = h := ⟨_, rfl⟩
        obtain ⟨jN1, hjN1⟩ : ∃ q, q = a := ⟨_, rfl⟩
        have ea1 : ((h : Int)).toNat = iN1 := by omega
        have pa1 : (0 : Int) ≤ (h : Int) := by omega
        have ba1 : (h : Int) < (sz : Int) := by omega
        have ra1 : IntKind.i64.wrap ((h : Int)) = (h : Int) := by rw [IntKind.wrap_i64]; omega
        have ec1 : ((a : Int)).toNat = jN1 := by omega
        have pc1 : (0 : Int) ≤ (a : Int) := by omega
        have bc1 : (a : Int) < (sz : Int) := by omega
        have rc1 : IntKind.i64.wrap ((a : Int)) = (a : Int) := by rw [IntKind.wrap_i64]; omega
        obtain ⟨x1, hx1⟩ : ∃ x, x = d[h]! := ⟨_, rfl⟩
        obtain ⟨y1, hy1⟩ : ∃ x, x = d[a]! := ⟨_, rfl⟩
        have l1a := S1.out.cl R (by omega) (h) (by omega)
        have l1b := S1.out.cl R (by omega) (a) (by omega)
        rw [← hx1, ← hiN1] at l1a
        rw [← hy1, ← hjN1] at l1b
        have hc1 := S1.out.cmp HC.out (by omega) x1 y1
        have hv1 : cf x1 y1 < 0 := by rw [hx1, hy1]; exact hv2
        have hd1 : decide (cf x1 y1 < 0) = true := decide_eq_true hv1
        clear hx1 hy1 hiN1 hjN1
        go_wp2_with fail
        go_quiet_grown (first | (go_at_fn g; refine Calls.grown_of (hc1 _ _)))
        have S2 : Aside (SW enc w0 blk off d (grow (wr.drewN nq) osq)) := S1.out.grown nq osq
        clear l1a l1b hc1 S1
        generalize grow (wr.drewN nq) osq = w2 at S2 ⊢
        clear nq osq
        clear ea1 ec1 pa1 ba1 ra1 pc1 bc1 rc1
        go_wp2
        go_roundg (j - (h + 1))
        case measure => omega
        case rel => exact ⟨h + 1, j, by go_num, rfl, by omega, by omega, hjb, F.out.up h2 h3 (by simp [hv]), Nat.le_refl _, S2⟩
      · have hv2 : ¬ cf d[h]! d[a]! < 0 := by rw [HCF.out, hda]; omega
        obtain ⟨iN2, hiN2⟩ : ∃ q, q = h := ⟨_, rfl⟩
        obtain ⟨jN2, hjN2⟩ : ∃ q, q = a := ⟨_, rfl⟩
        have ea2 : ((h : Int)).toNat = iN2 := by omega
        have pa2 : (0 : Int) ≤ (h : Int) := by omega
        have ba2 : (h : Int) < (sz : Int) := by omega
        have ra2 : IntKind.i64.wrap ((h : Int)) = (h : Int) := by rw [IntKind.wrap_i64]; omega
        have ec2 : ((a : Int)).toNat = jN2 := by omega
        have pc2 : (0 : Int) ≤ (a : Int) := by omega
        have bc2 : (a : Int) < (sz : Int) := by omega
        have rc2 : IntKind.i64.wrap ((a : Int)) = (a : Int) := by rw [IntKind.wrap_i64]; omega
        obtain ⟨x2, hx2⟩ : ∃ x, x = d[h]! := ⟨_, rfl⟩
        obtain ⟨y2, hy2⟩ : ∃ x, x = d[a]! := ⟨_, rfl⟩
        have l2a := S1.out.cl R (by omega) (h) (by omega)
        have l2b := S1.out.cl R (by omega) (a) (by omega)
        rw [← hx2, ← hiN2] at l2a
        rw [← hy2, ← hjN2] at l2b
        have hc2 := S1.out.cmp HC.out (by omega) x2 y2
        have hv2 : ¬ cf x2 y2 < 0 := by rw [hx2, hy2]; exact hv2
        have hd2 : decide (cf x2 y2 < 0) = false := decide_eq_false hv2
        clear hx2 hy2 hiN2 hjN2
        go_wp2_with fail
        go_quiet_grown (first | (go_at_fn g; refine Calls.grown_of (hc2 _ _)))
        have S2 : Aside (SW enc w0 blk off d (grow (wr.drewN nq) osq)) := S1.out.grown nq osq
        clear l2a l2b hc2 S1
        generalize grow (wr.drewN nq) osq = w2 at S2 ⊢
        clear nq osq
        clear ea2 ec2 pa2 ba2 ra2 pc2 bc2 rc2
        go_wp2
        go_roundg (h - i)
        case measure => omega
        case rel => exact ⟨i, h, rfl, rfl, hi1, h2, by omega, F.out.down h2 h3 (by simp [hv]), Nat.le_refl _, S2⟩
    · have hltz : ¬ (i : Int) < (j : Int) := by omega
      obtain rfl : i = j := by omega
      have FF := F.out
      rw [HD.out] at FF
      rw [← hb] at FF
      obtain ⟨Y1, Y2, hy, hy1, hmg⟩ := one_left kk A Y B x m i HSY.out (by rw [hA]; exact hm.symm) FF
      have hy2 : i - 1 - a = Y1.length := by simp at hm; omega
      have hi2 : a + 1 ≤ i := by simp at hm; omega
      have HR : Hid (bubR a (i - 1 - a) d = (A ++ (mrg kk [x] Y ++ B)).toArray) := by
        have e := bubR_list x Y1 A (Y2 ++ B)
        unfold Hid
        rw [hmg, hy2, HD.out, hy, ← hA]
        simp only [List.append_assoc, List.cons_append, List.nil_append] at e ⊢
        exact e
      clear FF hmg hy hy1 hy2 F hda
      go_wp2
      go_loopg [13] (i - 1 - a) (fun kx s wr => ∃ (k : Nat) (dk : Array α), s = .int .i64 k ∧ a ≤ k ∧ k ≤ i - 1 ∧ i - 1 - k ≤ kx ∧ dk.size = sz ∧ Aside (SW enc w0 blk off dk wr) ∧ Hid (bubR k (i - 1 - k) dk = bubR a (i - 1 - a) d))
      case atStart => exact ⟨a, d, rfl, Nat.le_refl _, by omega, Nat.le_refl _, hds, S1, rfl⟩
      case round =>
        clear S1
        obtain ⟨k, dk, rfl, hk1, hk2, hkx2, hdk, S3, HO⟩ := hrel
        by_cases hlt2 : k < i - 1
        · have hltz2 : (k : Int) < (i : Int) - 1 := by omega
          go_wp2_with fail
          obtain ⟨iN3, hiN3⟩ : ∃ q, q = k := ⟨_, rfl⟩
          obtain ⟨jN3, hjN3⟩ : ∃ q, q = k + 1 := ⟨_, rfl⟩
          have ea3 : ((k : Int)).toNat = iN3 := by omega
          have pa3 : (0 : Int) ≤ (k : Int) := by omega
          have ba3 : (k : Int) < (sz : Int) := by omega
          have ra3 : IntKind.i64.wrap ((k : Int)) = (k : Int) := by rw [IntKind.wrap_i64]; omega
          have ec3 : ((k : Int) + 1).toNat = jN3 := by omega
          have pc3 : (0 : Int) ≤ (k : Int) + 1 := by omega
          have bc3 : (k : Int) + 1 < (sz : Int) := by omega
          have rc3 : IntKind.i64.wrap ((k : Int) + 1) = (k : Int) + 1 := by rw [IntKind.wrap_i64]; omega
          obtain ⟨x3, hx3⟩ : ∃ x, x = dk[k]! := ⟨_, rfl⟩
          obtain ⟨y3, hy3⟩ : ∃ x, x = dk[k + 1]! := ⟨_, rfl⟩
          have S4 : Aside (SW enc w0 blk off (swp dk (k) (k + 1)) ((wr.setCell ⟨blk, off + iN3, none⟩ (enc y3)).setCell ⟨blk, off + jN3, none⟩ (enc x3)).drew) := by rw [hiN3, hjN3, hx3, hy3]; exact S3.out.swapped R (k) (k + 1) (by omega) (by omega)
          have c3a := S3.out.c1 R (by omega) (k) (by omega)
          have c3b := S3.out.c1 R (by omega) (k + 1) (by omega)
          have f3a := S3.out.f1 R (by omega) (k) (by omega)
          have f3b := S3.out.f1 R (by omega) (k + 1) (by omega)
          obtain ⟨u3, c3c⟩ := S3.out.c2 R (by omega) (k) (k + 1) (by omega) (by omega) (enc y3)
          rw [← hjN3, ← hiN3] at c3c
          rw [← hx3, ← hiN3] at c3a
          rw [← hy3, ← hjN3] at c3b
          rw [← hiN3] at f3a
          rw [← hjN3] at f3b
          clear S3 hx3 hy3 hiN3 hjN3
          go_wp2_with fail
          go_big_region_o
          clear c3a c3b c3c f3a f3b
          generalize ((wr.setCell ⟨blk, off + iN3, none⟩ (enc y3)).setCell ⟨blk, off + jN3, none⟩ (enc x3)).drew = w4 at S4 ⊢
          clear ea3 ec3 pa3 ba3 ra3 pc3 bc3 rc3
          go_wp2
          go_roundg (i - 1 - (k + 1))
          case measure => omega
          case rel => exact ⟨k + 1, swp dk k (k + 1), by go_num, by omega, by omega, Nat.le_refl _, by rw [size_swp]; exact hdk, S4, (show Hid _ from by
            rw [← HO.out, show i - 1 - k = (i - 1 - (k + 1)) + 1 by omega, bubR]; rfl)⟩
        · have hltz2 : ¬ (k : Int) < (i : Int) - 1 := by omega
          go_wp2
          refine bodyPost_ret (results_none rfl _ _ _) rfl ?_
          refine ⟨rfl, ?_⟩
          have e := HO.out
          rw [show i - 1 - k = 0 by omega, bubR, HR.out] at e
          rw [← e]; exact S3.out
set_option maxRecDepth 100000 in
theorem sym_right (enc : α → Value) (kk : α → Nat) (cf : α → α → Int) (hcf : ∀ x y, cf x y = (kk y : Int) - kk x) (g : Nat) (cb : Array Value) (blk off cap sz : Nat) (d0 : Array α) (w0 : World)
    (eg : ∀ args w, (callFunc g args).run Tryz.prog w = .ok (.enter g args) w) (hcmp : CmpLays1 Tryz.prog g cb enc cf blk off d0.size w0) (R : Row1 enc w0 blk off d0) (hs : d0.size = sz) (hsz : sz < 4611686018427387904) (A X Y B : List α) (d : Array α) (a m b : Nat) (w : World)
    (h1 : ¬ X.length = 1) (h2 : Y.length = 1) (hX : X ≠ []) (hY : Y ≠ []) (hd : d = (A ++ (X ++ (Y ++ B))).toArray) (hds : d.size = sz) (hA : A.length = a) (hm : a + X.length = m) (hb : m + Y.length = b) (S : SW enc w0 blk off d w) (hSX : SrtK kk X) (hSY : SrtK kk Y) :
    Calls Tryz.prog 163 #[.slice (some ⟨blk, off, none⟩) sz cap, .int .i64 a, .int .i64 m, .int .i64 b, .func (.func g) #[] cb] w fun e w' => e = .returned (.tuple #[]) ∧ SW enc w0 blk off (A ++ (mrg kk X Y ++ B)).toArray w' := by
  have mixed : Tryz.prog.follows Departure.mixedOrders = true := by kernel_rfl
  have t3 := Tryz.underlying3; have a3 := Tryz.isAgg3; have z3 := Tryz.sizeOf3
  have t22 := Tryz.underlying124; have a22 := Tryz.isAgg124; have z22 := Tryz.sizeOf124
  have a24 := Tryz.isAgg117; have z24 := Tryz.sizeOf117
  have u22 := run_underlying t22
  have hcl0 := R.hO.cells
  simp only [Value.cells] at hcl0
  have hst := R.hO.store Tryz.prog
  have HC : Aside _ := hcmp
  clear hcmp
  have hbs : b ≤ sz := by rw [← hds, hd]; simp; omega
  have hX0 : 0 < X.length := List.length_pos_iff.2 hX
  have hY0 : 0 < Y.length := List.length_pos_iff.2 hY
  have S0 : Aside (SW enc w0 blk off d w) := S
  have HD := Lib.hid hd
  have HCF := Lib.hid hcf
  have HSX := Lib.hid hSX
  have HSY := Lib.hid hSY
  clear S hd hcf hSX hSY hX hY
  have h1z : ¬ (m : Int) - (a : Int) = 1 := by omega
  have h1q : ((m : Int) - (a : Int) == 1) = false := by rw [beq_eq_false_iff_ne]; exact h1z
  have h2z : (b : Int) - (m : Int) = 1 := by omega
  obtain ⟨y, hy⟩ := List.length_eq_one_iff.1 h2
  subst hy
  have hdm : d[m]! = y := by
    have e := get_mid (A ++ X) B y
    rw [List.length_append, hA, hm, List.append_assoc] at e
    rw [HD.out]; exact e
  have F0 : Hid (Found (fun h => decide (kk d[h]! < kk y)) a m a m) := Found.start _ (by omega)
  go_enter Tryz.func163, Tryz.ntmps163
  go_wp2
  go_loopg [14, 15] (m - a) (fun kx s t wr => ∃ (i j : Nat), s = .int .i64 i ∧ t = .int .i64 j ∧ a ≤ i ∧ i ≤ j ∧ j ≤ m ∧ Hid (Found (fun h => decide (kk d[h]! < kk y)) a m i j) ∧ j - i ≤ kx ∧ Aside (SW enc w0 blk off d wr))
  case atStart => exact ⟨a, m, rfl, rfl, Nat.le_refl _, by omega, Nat.le_refl _, F0, Nat.le_refl _, S0⟩
  case round =>
    clear S0 F0
    obtain ⟨i, j, rfl, rfl, hi1, hij, hjb, F, hkx, S1⟩ := hrel
    by_cases hlt : i < j
    · have hltz : (i : Int) < (j : Int) := by omega
      have hh := half_nat i j
      obtain ⟨h, hh0⟩ : ∃ h, h = (i + j) / 2 := ⟨_, rfl⟩
      rw [← hh0] at hh
      have h2 : i ≤ h := by omega
      have h3 : h < j := by omega
      clear hh0
      by_cases hv : kk d[h]! < kk y
      · have hv2 : cf d[m]! d[h]! < 0 := by rw [HCF.out, hdm]; omega
        obtain ⟨iN4, hiN4⟩ : ∃ q, q = m := ⟨_, rfl⟩
        obtain ⟨jN4, hjN4⟩ : ∃ q, q = h := ⟨_, rfl⟩
        have ea4 : ((m : Int)).toNat = iN4 := by omega
        have pa4 : (0 : Int) ≤ (m : Int) := by omega
        have ba4 : (m : Int) < (sz : Int) := by omega
        have ra4 : IntKind.i64.wrap ((m : Int)) = (m : Int) := by rw [IntKind.wrap_i64]; omega
        have ec4 : ((h : Int)).toNat = jN4 := by omega
        have pc4 : (0 : Int) ≤ (h : Int) := by omega
        have bc4 : (h : Int) < (sz : Int) := by omega
        have rc4 : IntKind.i64.wrap ((h : Int)) = (h : Int) := by rw [IntKind.wrap_i64]; omega
        obtain ⟨x4, hx4⟩ : ∃ x, x = d[m]! := ⟨_, rfl⟩
        obtain ⟨y4, hy4⟩ : ∃ x, x = d[h]! := ⟨_, rfl⟩
        have l4a := S1.out.cl R (by omega) (m) (by omega)
        have l4b := S1.out.cl R (by omega) (h) (by omega)
        rw [← hx4, ← hiN4] at l4a
        rw [← hy4, ← hjN4] at l4b
        have hc4 := S1.out.cmp HC.out (by omega) x4 y4
        have hv4 : cf x4 y4 < 0 := by rw [hx4, hy4]; exact hv2
        have hd4 : decide (cf x4 y4 < 0) = true := decide_eq_true hv4
        clear hx4 hy4 hiN4 hjN4
        go_wp2_with fail
        go_quiet_grown (first | (go_at_fn g; refine Calls.grown_of (hc4 _ _)))
        have S2 : Aside (SW enc w0 blk off d (grow (wr.drewN nq) osq)) := S1.out.grown nq osq
        clear l4a l4b hc4 S1
        generalize grow (wr.drewN nq) osq = w2 at S2 ⊢
        clear nq osq
        clear ea4 ec4 pa4 ba4 ra4 pc4 bc4 rc4
        go_wp2
        go_roundg (h - i)
        case measure => omega
        case rel => exact ⟨i, h, rfl, rfl, hi1, h2, by omega, F.out.down h2 h3 (by simp [hv]), Nat.le_refl _, S2⟩
      · have hv2 : ¬ cf d[m]! d[h]! < 0 := by rw [HCF.out, hdm]; omega
        obtain ⟨iN5, hiN5⟩ : ∃ q, q = m := ⟨_, rfl⟩
        obtain ⟨jN5, hjN5⟩ : ∃ q, q = h := ⟨_, rfl⟩
        have ea5 : ((m : Int)).toNat = iN5 := by omega
        have pa5 : (0 : Int) ≤ (m : Int) := by omega
        have ba5 : (m : Int) < (sz : Int) := by omega
        have ra5 : IntKind.i64.wrap ((m : Int)) = (m : Int) := by rw [IntKind.wrap_i64]; omega
        have ec5 : ((h : Int)).toNat = jN5 := by omega
        have pc5 : (0 : Int) ≤ (h : Int) := by omega
        have bc5 : (h : Int) < (sz : Int) := by omega
        have rc5 : IntKind.i64.wrap ((h : Int)) = (h : Int) := by rw [IntKind.wrap_i64]; omega
        obtain ⟨x5, hx5⟩ : ∃ x, x = d[m]! := ⟨_, rfl⟩
        obtain ⟨y5, hy5⟩ : ∃ x, x = d[h]! := ⟨_, rfl⟩
        have l5a := S1.out.cl R (by omega) (m) (by omega)
        have l5b := S1.out.cl R (by omega) (h) (by omega)
        rw [← hx5, ← hiN5] at l5a
        rw [← hy5, ← hjN5] at l5b
        have hc5 := S1.out.cmp HC.out (by omega) x5 y5
        have hv5 : ¬ cf x5 y5 < 0 := by rw [hx5, hy5]; exact hv2
        have hd5 : decide (cf x5 y5 < 0) = false := decide_eq_false hv5
        clear hx5 hy5 hiN5 hjN5
        go_wp2_with fail
        go_quiet_grown (first | (go_at_fn g; refine Calls.grown_of (hc5 _ _)))
        have S2 : Aside (SW enc w0 blk off d (grow (wr.drewN nq) osq)) := S1.out.grown nq osq
        clear l5a l5b hc5 S1
        generalize grow (wr.drewN nq) osq = w2 at S2 ⊢
        clear nq osq
        clear ea5 ec5 pa5 ba5 ra5 pc5 bc5 rc5
        go_wp2
        go_roundg (j - (h + 1))
        case measure => omega
        case rel => exact ⟨h + 1, j, by go_num, rfl, by omega, by omega, hjb, F.out.up h2 h3 (by simp [hv]), Nat.le_refl _, S2⟩
    · have hltz : ¬ (i : Int) < (j : Int) := by omega
      obtain rfl : i = j := by omega
      have FF := F.out
      rw [HD.out] at FF
      rw [← hm, ← hA] at FF
      obtain ⟨X1, X2, hx, hx1, hmg⟩ := one_right kk A X B y i HSX.out FF
      have hx2 : m - i = X2.length := by rw [hx, List.length_append] at hm; omega
      have HR : Hid (bubL m (m - i) d = (A ++ (mrg kk X [y] ++ B)).toArray) := by
        have e := bubL_list y X2.reverse (A ++ X1) B
        rw [List.length_reverse, List.reverse_reverse, List.length_append, hx1, ← hx2, show i + (m - i) = m by omega] at e
        unfold Hid
        rw [hmg, HD.out, hx]
        simp only [List.append_assoc, List.cons_append, List.nil_append] at e ⊢
        exact e
      clear FF hmg hx hx1 hx2 F hdm
      go_wp2
      go_loopg [17] (m - i) (fun kx s wr => ∃ (k : Nat) (dk : Array α), s = .int .i64 k ∧ i ≤ k ∧ k ≤ m ∧ k - i ≤ kx ∧ dk.size = sz ∧ Aside (SW enc w0 blk off dk wr) ∧ Hid (bubL k (k - i) dk = bubL m (m - i) d))
      case atStart => exact ⟨m, d, rfl, by omega, Nat.le_refl _, Nat.le_refl _, hds, S1, rfl⟩
      case round =>
        clear S1
        obtain ⟨k, dk, rfl, hk1, hk2, hkx2, hdk, S3, HO⟩ := hrel
        by_cases hlt2 : i < k
        · obtain ⟨kp, hkp⟩ : ∃ q, q + 1 = k := ⟨k - 1, by omega⟩
          have zkp : (k : Int) = (kp : Int) + 1 := by omega
          have hltz2 : (i : Int) < (kp : Int) + 1 := by omega
          go_wp2_with fail
          obtain ⟨iN6, hiN6⟩ : ∃ q, q = k := ⟨_, rfl⟩
          obtain ⟨jN6, hjN6⟩ : ∃ q, q = k - 1 := ⟨_, rfl⟩
          have ea6 : ((kp : Int) + 1).toNat = iN6 := by omega
          have pa6 : (0 : Int) ≤ (kp : Int) + 1 := by omega
          have ba6 : (kp : Int) + 1 < (sz : Int) := by omega
          have ra6 : IntKind.i64.wrap ((kp : Int) + 1) = (kp : Int) + 1 := by rw [IntKind.wrap_i64]; omega
          have ec6 : ((kp : Int)).toNat = jN6 := by omega
          have pc6 : (0 : Int) ≤ (kp : Int) := by omega
          have bc6 : (kp : Int) < (sz : Int) := by omega
          have rc6 : IntKind.i64.wrap ((kp : Int)) = (kp : Int) := by rw [IntKind.wrap_i64]; omega
          obtain ⟨x6, hx6⟩ : ∃ x, x = dk[k]! := ⟨_, rfl⟩
          obtain ⟨y6, hy6⟩ : ∃ x, x = dk[k - 1]! := ⟨_, rfl⟩
          have S4 : Aside (SW enc w0 blk off (swp dk (k) (k - 1)) ((wr.setCell ⟨blk, off + iN6, none⟩ (enc y6)).setCell ⟨blk, off + jN6, none⟩ (enc x6)).drew) := by rw [hiN6, hjN6, hx6, hy6]; exact S3.out.swapped R (k) (k - 1) (by omega) (by omega)
          have c6a := S3.out.c1 R (by omega) (k) (by omega)
          have c6b := S3.out.c1 R (by omega) (k - 1) (by omega)
          have f6a := S3.out.f1 R (by omega) (k) (by omega)
          have f6b := S3.out.f1 R (by omega) (k - 1) (by omega)
          obtain ⟨u6, c6c⟩ := S3.out.c2 R (by omega) (k) (k - 1) (by omega) (by omega) (enc y6)
          rw [← hjN6, ← hiN6] at c6c
          rw [← hx6, ← hiN6] at c6a
          rw [← hy6, ← hjN6] at c6b
          rw [← hiN6] at f6a
          rw [← hjN6] at f6b
          clear S3 hx6 hy6 hiN6 hjN6
          go_wp2_with fail
          go_big_region_o
          clear c6a c6b c6c f6a f6b
          generalize ((wr.setCell ⟨blk, off + iN6, none⟩ (enc y6)).setCell ⟨blk, off + jN6, none⟩ (enc x6)).drew = w4 at S4 ⊢
          clear ea6 ec6 pa6 ba6 ra6 pc6 bc6 rc6
          go_wp2
          go_roundg (k - 1 - i)
          case measure => omega
          case rel => exact ⟨k - 1, swp dk k (k - 1), by first | rfl | go_num | (congr 1; omega), by omega, by omega, Nat.le_refl _, by rw [size_swp]; exact hdk, S4, (show Hid _ from by
            have e := HO.out; rw [show k - i = (k - 1 - i) + 1 by omega, bubL] at e; exact e)⟩
        · have hltz2 : ¬ (i : Int) < (k : Int) := by omega
          go_wp2
          refine bodyPost_ret (results_none rfl _ _ _) rfl ?_
          refine ⟨rfl, ?_⟩
          have e := HO.out
          rw [show k - i = 0 by omega, bubL, HR.out] at e
          rw [← e]; exact S3.out
set_option maxRecDepth 100000 in
theorem sym_two (enc : α → Value) (kk : α → Nat) (cf : α → α → Int) (hcf : ∀ x y, cf x y = (kk y : Int) - kk x) (g : Nat) (cb : Array Value) (blk off cap sz : Nat) (d0 : Array α) (w0 : World)
    (eg : ∀ args w, (callFunc g args).run Tryz.prog w = .ok (.enter g args) w) (hcmp : CmpLays1 Tryz.prog g cb enc cf blk off d0.size w0) (R : Row1 enc w0 blk off d0) (hs : d0.size = sz) (hsz : sz < 4611686018427387904) (N : Nat)
    (ih : ∀ (A X Y B : List α) (d : Array α) (a m b : Nat) (w : World), X.length + Y.length ≤ N → X ≠ [] → Y ≠ [] → d = (A ++ (X ++ (Y ++ B))).toArray → d.size = sz → A.length = a → a + X.length = m → m + Y.length = b → SW enc w0 blk off d w → SrtK kk X → SrtK kk Y →
      Calls Tryz.prog 163 #[.slice (some ⟨blk, off, none⟩) sz cap, .int .i64 a, .int .i64 m, .int .i64 b, .func (.func g) #[] cb] w fun e w' => e = .returned (.tuple #[]) ∧ SW enc w0 blk off (A ++ (mrg kk X Y ++ B)).toArray w') (A X Y B : List α) (d : Array α) (a m b : Nat) (w : World)
    (hN : X.length + Y.length ≤ N + 1) (h1 : ¬ X.length = 1) (h2 : ¬ Y.length = 1) (hX : X ≠ []) (hY : Y ≠ []) (hd : d = (A ++ (X ++ (Y ++ B))).toArray) (hds : d.size = sz) (hA : A.length = a) (hm : a + X.length = m) (hb : m + Y.length = b) (S : SW enc w0 blk off d w) (hSX : SrtK kk X) (hSY : SrtK kk Y) :
    Calls Tryz.prog 163 #[.slice (some ⟨blk, off, none⟩) sz cap, .int .i64 a, .int .i64 m, .int .i64 b, .func (.func g) #[] cb] w fun e w' => e = .returned (.tuple #[]) ∧ SW enc w0 blk off (A ++ (mrg kk X Y ++ B)).toArray w' := by
  have mixed : Tryz.prog.follows Departure.mixedOrders = true := by kernel_rfl
  have t3 := Tryz.underlying3; have a3 := Tryz.isAgg3; have z3 := Tryz.sizeOf3
  have t22 := Tryz.underlying124; have a22 := Tryz.isAgg124; have z22 := Tryz.sizeOf124
  have a24 := Tryz.isAgg117; have z24 := Tryz.sizeOf117
  have u22 := run_underlying t22
  have hcl0 := R.hO.cells
  simp only [Value.cells] at hcl0
  have hst := R.hO.store Tryz.prog
  have HC : Aside _ := hcmp
  clear hcmp
  have hbs : b ≤ sz := by rw [← hds, hd]; simp; omega
  have hX0 : 0 < X.length := List.length_pos_iff.2 hX
  have hY0 : 0 < Y.length := List.length_pos_iff.2 hY
  have S0 : Aside (SW enc w0 blk off d w) := S
  have HD := Lib.hid hd
  have HCF := Lib.hid hcf
  have HSX := Lib.hid hSX
  have HSY := Lib.hid hSY
  clear S hd hcf hSX hSY hX hY
  have IH := Lib.hid ih
  clear ih
  obtain ⟨T, hT⟩ : ∃ T, T = (A ++ (mrg kk X Y ++ B)).toArray := ⟨_, rfl⟩
  rw [← hT]
  have HT := Lib.hid hT
  clear hT
  have h1z : ¬ (m : Int) - (a : Int) = 1 := by omega
  have h1q : ((m : Int) - (a : Int) == 1) = false := by rw [beq_eq_false_iff_ne]; exact h1z
  have h2z : ¬ (b : Int) - (m : Int) = 1 := by omega
  have h2q : ((b : Int) - (m : Int) == 1) = false := by rw [beq_eq_false_iff_ne]; exact h2z
  obtain ⟨mid, hmid⟩ : ∃ q, q = (a + b) / 2 := ⟨_, rfl⟩
  have hh := half_nat a b
  rw [← hmid] at hh
  have ham : a < m := by omega
  have hmb : m < b := by omega
  have hmd1 : a < mid := by omega
  have hmd2 : mid < b := by omega
  have hmd3 : 2 * mid ≤ a + b := by omega
  have hmd4 : a + b ≤ 2 * mid + 1 := by omega
  obtain ⟨n, hn⟩ : ∃ q, q = mid + m := ⟨_, rfl⟩
  have zn : (mid : Int) + (m : Int) = (n : Int) := by omega
  have HMID := Lib.hid hmid
  have HN := Lib.hid hn
  have hn1 : n ≤ mid + m := by omega
  have hn2 : mid + m ≤ n := by omega
  clear hmid hn
  go_enter Tryz.func163, Tryz.ntmps163
  go_upto_if 140 with fail
  go_cut [20, 21] (fun s t wx => ∃ lo hi : Nat, s = .int .i64 lo ∧ t = .int .i64 hi ∧ lo ≤ hi ∧ a ≤ lo ∧ hi ≤ m ∧ hi ≤ mid ∧ n ≤ b + lo ∧ Hid ((mid < m ∧ lo + b = n ∧ hi = mid) ∨ (m ≤ mid ∧ lo = a ∧ hi = m)) ∧ wx = w)
  case first => as_aux_lemma =>
    by_cases hmm : mid < m
    · have hmz : (mid : Int) < (m : Int) := by omega
      go_wp2
      go_meet
      case rel => exact ⟨n - b, mid, by go_num, rfl, by omega, by omega, by omega, Nat.le_refl _, by omega, Or.inl ⟨hmm, by omega, rfl⟩, rfl⟩
    · have hmz : ¬ (mid : Int) < (m : Int) := by omega
      go_wp2
      go_meet
      case rel => exact ⟨a, m, rfl, rfl, by omega, Nat.le_refl _, Nat.le_refl _, by omega, by omega, Or.inr ⟨by omega, rfl, rfl⟩, rfl⟩
  case rest =>
    obtain ⟨lo, hi, rfl, rfl, hlh, hal, him, hid, hnb, HLH, hwc⟩ := hcut
    rw [hwc]
    clear hwc
    have F0 : Hid (Found (cutV kk n d) lo hi lo hi) := Found.start _ hlh
    obtain ⟨p, hp1, hp2⟩ : ∃ q, q + 1 ≤ n ∧ n ≤ q + 1 := ⟨n - 1, by omega, by omega⟩
    have zp : (n : Int) - 1 = (p : Int) := by omega
    go_wp2
    go_loopg [20, 21] (hi - lo) (fun kx s t wr => ∃ (i j : Nat), s = .int .i64 i ∧ t = .int .i64 j ∧ lo ≤ i ∧ i ≤ j ∧ j ≤ hi ∧ Hid (Found (cutV kk n d) lo hi i j) ∧ j - i ≤ kx ∧ Aside (SW enc w0 blk off d wr))
    case atStart => exact ⟨lo, hi, rfl, rfl, Nat.le_refl _, hlh, Nat.le_refl _, F0, Nat.le_refl _, S0⟩
    case round =>
      clear S0 F0
      obtain ⟨i, j, rfl, rfl, hi1, hij, hjb, F, hkx, S1⟩ := hrel
      by_cases hlt : i < j
      · have hltz : (i : Int) < (j : Int) := by omega
        have hh := half_nat i j
        obtain ⟨h, hh0⟩ : ∃ h, h = (i + j) / 2 := ⟨_, rfl⟩
        rw [← hh0] at hh
        have h2 : i ≤ h := by omega
        have h3 : h < j := by omega
        clear hh0
        obtain ⟨qn, hq⟩ : ∃ q, q = n - 1 - h := ⟨_, rfl⟩
        have hq1 : qn + h ≤ p := by omega
        have hq2 : p ≤ qn + h := by omega
        have zq : (p : Int) - (h : Int) = (qn : Int) := by omega
        have HQ : Hid (cutV kk n d h = decide (kk d[h]! < kk d[qn]!)) := by unfold Hid; rw [hq]; rfl
        clear hq
        by_cases hv : kk d[h]! < kk d[qn]!
        · have hv2 : cf d[qn]! d[h]! < 0 := by rw [HCF.out]; omega
          obtain ⟨iN7, hiN7⟩ : ∃ q, q = qn := ⟨_, rfl⟩
          obtain ⟨jN7, hjN7⟩ : ∃ q, q = h := ⟨_, rfl⟩
          have ea7 : ((qn : Int)).toNat = iN7 := by omega
          have pa7 : (0 : Int) ≤ (qn : Int) := by omega
          have ba7 : (qn : Int) < (sz : Int) := by omega
          have ra7 : IntKind.i64.wrap ((qn : Int)) = (qn : Int) := by rw [IntKind.wrap_i64]; omega
          have ec7 : ((h : Int)).toNat = jN7 := by omega
          have pc7 : (0 : Int) ≤ (h : Int) := by omega
          have bc7 : (h : Int) < (sz : Int) := by omega
          have rc7 : IntKind.i64.wrap ((h : Int)) = (h : Int) := by rw [IntKind.wrap_i64]; omega
          obtain ⟨x7, hx7⟩ : ∃ x, x = d[qn]! := ⟨_, rfl⟩
          obtain ⟨y7, hy7⟩ : ∃ x, x = d[h]! := ⟨_, rfl⟩
          have l7a := S1.out.cl R (by omega) (qn) (by omega)
          have l7b := S1.out.cl R (by omega) (h) (by omega)
          rw [← hx7, ← hiN7] at l7a
          rw [← hy7, ← hjN7] at l7b
          have hc7 := S1.out.cmp HC.out (by omega) x7 y7
          have hv7 : cf x7 y7 < 0 := by rw [hx7, hy7]; exact hv2
          have hd7 : decide (cf x7 y7 < 0) = true := decide_eq_true hv7
          clear hx7 hy7 hiN7 hjN7
          go_wp2_with fail
          go_quiet_grown (first | (go_at_fn g; refine Calls.grown_of (hc7 _ _)))
          have S2 : Aside (SW enc w0 blk off d (grow (wr.drewN nq) osq)) := S1.out.grown nq osq
          clear l7a l7b hc7 S1
          generalize grow (wr.drewN nq) osq = w2 at S2 ⊢
          clear nq osq
          clear ea7 ec7 pa7 ba7 ra7 pc7 bc7 rc7
          go_wp2
          go_roundg (h - i)
          case measure => omega
          case rel => exact ⟨i, h, rfl, rfl, hi1, h2, by omega, F.out.down h2 h3 (HQ.out.trans (decide_eq_true hv)), Nat.le_refl _, S2⟩
        · have hv2 : ¬ cf d[qn]! d[h]! < 0 := by rw [HCF.out]; omega
          obtain ⟨iN8, hiN8⟩ : ∃ q, q = qn := ⟨_, rfl⟩
          obtain ⟨jN8, hjN8⟩ : ∃ q, q = h := ⟨_, rfl⟩
          have ea8 : ((qn : Int)).toNat = iN8 := by omega
          have pa8 : (0 : Int) ≤ (qn : Int) := by omega
          have ba8 : (qn : Int) < (sz : Int) := by omega
          have ra8 : IntKind.i64.wrap ((qn : Int)) = (qn : Int) := by rw [IntKind.wrap_i64]; omega
          have ec8 : ((h : Int)).toNat = jN8 := by omega
          have pc8 : (0 : Int) ≤ (h : Int) := by omega
          have bc8 : (h : Int) < (sz : Int) := by omega
          have rc8 : IntKind.i64.wrap ((h : Int)) = (h : Int) := by rw [IntKind.wrap_i64]; omega
          obtain ⟨x8, hx8⟩ : ∃ x, x = d[qn]! := ⟨_, rfl⟩
          obtain ⟨y8, hy8⟩ : ∃ x, x = d[h]! := ⟨_, rfl⟩
          have l8a := S1.out.cl R (by omega) (qn) (by omega)
          have l8b := S1.out.cl R (by omega) (h) (by omega)
          rw [← hx8, ← hiN8] at l8a
          rw [← hy8, ← hjN8] at l8b
          have hc8 := S1.out.cmp HC.out (by omega) x8 y8
          have hv8 : ¬ cf x8 y8 < 0 := by rw [hx8, hy8]; exact hv2
          have hd8 : decide (cf x8 y8 < 0) = false := decide_eq_false hv8
          clear hx8 hy8 hiN8 hjN8
          go_wp2_with fail
          go_quiet_grown (first | (go_at_fn g; refine Calls.grown_of (hc8 _ _)))
          have S2 : Aside (SW enc w0 blk off d (grow (wr.drewN nq) osq)) := S1.out.grown nq osq
          clear l8a l8b hc8 S1
          generalize grow (wr.drewN nq) osq = w2 at S2 ⊢
          clear nq osq
          clear ea8 ec8 pa8 ba8 ra8 pc8 bc8 rc8
          go_wp2
          go_roundg (j - (h + 1))
          case measure => omega
          case rel => exact ⟨h + 1, j, by go_num, rfl, by omega, by omega, hjb, F.out.up h2 h3 (HQ.out.trans (decide_eq_false hv)), Nat.le_refl _, S2⟩
      · have hltz : ¬ (i : Int) < (j : Int) := by omega
        obtain rfl : i = j := by omega
        have FF := F.out
        rw [HD.out] at FF
        obtain ⟨L1, L2, R1, R2, hx, hy, hl1, hr1, hc1, hc2⟩ := halves_of kk A X Y B mid lo hi i n HSX.out HSY.out (by rw [hA, hm]; exact HN.out) (by rw [hA, hm, hb]; exact HMID.out) (by rw [hA, hm, hb]; exact HLH.out) FF
        rw [hA] at hl1 hr1
        rw [hm] at hr1
        obtain ⟨e, he⟩ : ∃ q, q = m + R1.length := ⟨_, rfl⟩
        have ze : (n : Int) - (i : Int) = (e : Int) := by omega
        have hlx0 : L1.length + L2.length = X.length := by rw [hx, List.length_append]
        have hly0 : R1.length + R2.length = Y.length := by rw [hy, List.length_append]
        have hie : i ≤ mid := by omega
        have heb : e ≤ b := by omega
        have hme : mid ≤ e := by omega
        have hmid2 : mid = i + R1.length := by omega
        have hmeL : e = mid + L2.length := by omega
        have hlx1 : L1.length + L2.length ≤ X.length := by omega
        have hlx2 : X.length ≤ L1.length + L2.length := by omega
        have hly1 : R1.length + R2.length ≤ Y.length := by omega
        have hly2 : Y.length ≤ R1.length + R2.length := by omega
        have hr11 : i + R1.length ≤ mid := by omega
        have hr12 : mid ≤ i + R1.length := by omega
        have hl21 : mid + L2.length ≤ e := by omega
        have hl22 : e ≤ mid + L2.length := by omega
        have he1 : e ≤ m + R1.length := by omega
        have he2 : m + R1.length ≤ e := by omega
        have hsx := HSX.out
        have hsy := HSY.out
        rw [hx] at hsx
        rw [hy] at hsy
        have SS := Lib.hid (show SrtK kk L1 ∧ SrtK kk L2 ∧ SrtK kk R1 ∧ SrtK kk R2 from ⟨(List.pairwise_append.1 hsx).1, (List.pairwise_append.1 hsx).2.1, (List.pairwise_append.1 hsy).1, (List.pairwise_append.1 hsy).2.1⟩)
        have HMG : Hid (mrg kk X Y = mrg kk L1 R1 ++ mrg kk L2 R2) := by unfold Hid; rw [hx, hy]; exact mrg_split kk L1 R1 L2 R2 hc1 hc2
        have HDX : Hid (d = (A ++ (L1 ++ (L2 ++ (R1 ++ (R2 ++ B))))).toArray) := by unfold Hid; rw [HD.out, hx, hy]; simp
        obtain ⟨d1, hd1⟩ : ∃ q, q = (A ++ (L1 ++ (R1 ++ (L2 ++ (R2 ++ B))))).toArray := ⟨_, rfl⟩
        obtain ⟨d2, hd2⟩ : ∃ q, q = (A ++ (mrg kk L1 R1 ++ (L2 ++ (R2 ++ B)))).toArray := ⟨_, rfl⟩
        have HD1 := Lib.hid hd1
        have HD2 := Lib.hid hd2
        have hz1 : d1.size = sz := by rw [← hds, HDX.out, hd1]; simp; omega
        have hz2 : d2.size = sz := by rw [← hds, HDX.out, hd2]; simp [mrg_length]; omega
        clear FF hx hy hsx hsy hc1 hc2 hd1 hd2 F HSX HSY HD HLH HMID hlx0 hly0 hmid2 hmeL he hr1
        go_upto_region 39 with fail
        go_cut [185] (fun t wx => t = .bool (decide (i < m) && decide (m < e)) ∧ wx = wr)
        case first => as_aux_lemma =>
          by_cases hg1 : i < m
          · have hg1z : (i : Int) < (m : Int) := by omega
            by_cases hg2 : m < e
            · have hg2z : (m : Int) < (e : Int) := by omega
              go_wp2
              go_meet
              case rel => exact ⟨vbool (by simp [hg1, hg2]), rfl⟩
            · have hg2z : ¬ (m : Int) < (e : Int) := by omega
              go_wp2
              go_meet
              case rel => exact ⟨vbool (by simp [hg1, hg2]), rfl⟩
          · have hg1z : ¬ (i : Int) < (m : Int) := by omega
            go_wp2
            go_meet
            case rel => exact ⟨vbool (by simp [hg1]), rfl⟩
        case rest =>
        obtain ⟨rfl, hwc⟩ := hcut
        rw [hwc]
        clear hwc
        obtain ⟨pb185, hpb⟩ : ∃ q : Bool, q = (decide (i < m) && decide (m < e)) := ⟨_, rfl⟩
        rw [← hpb]
        have HPB185 := Lib.hid hpb
        clear hpb
        go_upto_if 185 with fail
        go_cut [] (fun wx => Aside (SW enc w0 blk off d1 wx))
        case first => as_aux_lemma =>
          by_cases hsm : i < m
          · by_cases hm2 : m < e
            · have hpt : pb185 = true := by rw [HPB185.out]; simp [hsm, hm2]
              subst hpt
              have hr := Lib.hid (rotate_s enc (.func (.func g) #[] cb) blk off cap i m e d0 d w0 wr R (by omega) S1.out hsm hm2 (by omega) (by omega))
              have hrd : Hid (rotR m (m - i) (e - m) d = d1) := by
                have q := rotR_list L2 R1 (A ++ L1) (R2 ++ B) (fun h => by rw [h] at hlx2; simp at hlx2; omega) (fun h => by rw [h] at he1; simp at he1; omega)
                rw [List.length_append, hA, hl1, show i + L2.length = m by omega] at q
                unfold Hid
                rw [HDX.out, HD1.out, show m - i = L2.length by omega, show e - m = R1.length by omega]
                simp only [List.append_assoc] at q ⊢
                exact q
              rw [hrd.out, hds] at hr
              clear hrd
              go_wp2_with fail
              refine hr.out.mono ?_; rintro _ w5 ⟨rfl, S5⟩
              have S6 : Aside _ := S5
              clear S5 hr S1
              go_wp2
              go_meet
              case rel => exact S6
            · have hpt : pb185 = false := by rw [HPB185.out]; simp [hm2]
              subst hpt
              have h0 : R1 = [] := List.eq_nil_of_length_eq_zero (by omega)
              have hdd : d = d1 := by rw [HDX.out, HD1.out, h0]; rfl
              go_wp2
              go_meet
              case rel => rw [← hdd]; exact S1
          · have hpt : pb185 = false := by rw [HPB185.out]; simp [hsm]
            subst hpt
            have h0 : L2 = [] := List.eq_nil_of_length_eq_zero (by omega)
            have hdd : d = d1 := by rw [HDX.out, HD1.out, h0]; rfl
            go_wp2
            go_meet
            case rel => rw [← hdd]; exact S1
        case rest =>
          have S7 := hcut
          clear hcut S1 HDX
          generalize wc = w7 at S7 ⊢
          go_upto_region 41 with fail
          go_cut [199] (fun t wx => t = .bool (decide (a < i) && decide (i < mid)) ∧ wx = w7)
          case first => as_aux_lemma =>
            by_cases hg1 : a < i
            · have hg1z : (a : Int) < (i : Int) := by omega
              by_cases hg2 : i < mid
              · have hg2z : (i : Int) < (mid : Int) := by omega
                go_wp2
                go_meet
                case rel => exact ⟨vbool (by simp [hg1, hg2]), rfl⟩
              · have hg2z : ¬ (i : Int) < (mid : Int) := by omega
                go_wp2
                go_meet
                case rel => exact ⟨vbool (by simp [hg1, hg2]), rfl⟩
            · have hg1z : ¬ (a : Int) < (i : Int) := by omega
              go_wp2
              go_meet
              case rel => exact ⟨vbool (by simp [hg1]), rfl⟩
          case rest =>
          obtain ⟨rfl, hwc⟩ := hcut
          rw [hwc]
          clear hwc
          obtain ⟨pb199, hpb⟩ : ∃ q : Bool, q = (decide (a < i) && decide (i < mid)) := ⟨_, rfl⟩
          rw [← hpb]
          have HPB199 := Lib.hid hpb
          clear hpb
          go_upto_if 199 with fail
          go_cut [] (fun wx => Aside (SW enc w0 blk off d2 wx))
          case first => as_aux_lemma =>
            by_cases ha2 : a < i
            · by_cases hi2 : i < mid
              · have hpt : pb199 = true := by rw [HPB199.out]; simp [ha2, hi2]
                subst hpt
                have hr := Lib.hid (IH.out A L1 R1 (L2 ++ (R2 ++ B)) d1 a i mid w7 (by omega) (fun h => by rw [h] at hl1; simp at hl1; omega) (fun h => by rw [h] at hr12; simp at hr12; omega) HD1.out hz1 hA hl1 (by omega) S7.out SS.out.1 SS.out.2.2.1)
                rw [← HD2.out] at hr
                go_wp2_with fail
                refine hr.out.mono ?_; rintro _ w8 ⟨rfl, S8⟩
                have S9 : Aside _ := S8
                clear S8 hr S7
                go_wp2
                go_meet
                case rel => exact S9
              · have hpt : pb199 = false := by rw [HPB199.out]; simp [hi2]
                subst hpt
                have h0 : R1 = [] := List.eq_nil_of_length_eq_zero (by omega)
                have hdd : d1 = d2 := by rw [HD1.out, HD2.out, h0, mrg_nil_r]; rfl
                go_wp2
                go_meet
                case rel => rw [← hdd]; exact S7
            · have hpt : pb199 = false := by rw [HPB199.out]; simp [ha2]
              subst hpt
              have h0 : L1 = [] := List.eq_nil_of_length_eq_zero (by omega)
              have hdd : d1 = d2 := by rw [HD1.out, HD2.out, h0, mrg_nil_l]; rfl
              go_wp2
              go_meet
              case rel => rw [← hdd]; exact S7
          case rest =>
            have S10 := hcut
            clear hcut S7 HD1
            generalize wc = w10 at S10 ⊢
            have HFIN : Hid (∀ Z, Z = mrg kk L2 R2 → (A ++ (mrg kk X Y ++ B)).toArray = ((A ++ mrg kk L1 R1) ++ (Z ++ B)).toArray) := fun Z hZ => by rw [HMG.out, hZ]; simp
            have HD3 : Hid (d2 = ((A ++ mrg kk L1 R1) ++ (L2 ++ (R2 ++ B))).toArray) := by unfold Hid; rw [HD2.out]; simp
            rw [← HT.out] at HFIN
            clear HD2 HMG
            by_cases hem : mid < e
            · have he2z : (mid : Int) < (e : Int) := by omega
              by_cases hb2 : e < b
              · have hb2z : (e : Int) < (b : Int) := by omega
                have hr := Lib.hid (IH.out (A ++ mrg kk L1 R1) L2 R2 B d2 mid e b w10 (by omega) (fun h => by rw [h] at hl22; simp at hl22; omega) (fun h => by rw [h] at hly2; simp at hly2; omega) HD3.out hz2 (by rw [List.length_append, mrg_length]; omega) (by omega) (by omega) S10.out SS.out.2.1 SS.out.2.2.2)
                rw [← HFIN.out _ rfl] at hr
                go_wp2_with fail
                refine hr.out.mono ?_; rintro _ w8 ⟨rfl, S8⟩
                have S9 : Aside _ := S8
                clear S8 hr S10
                go_wp2
                refine bodyPost_end (results_none rfl _ _ _) rfl ?_
                exact ⟨rfl, S9.out⟩
              · have hb2z : ¬ (e : Int) < (b : Int) := by omega
                have h0 : R2 = [] := List.eq_nil_of_length_eq_zero (by omega)
                have hdd : d2 = T := by rw [HFIN.out L2 (by rw [h0, mrg_nil_r]), HD3.out, h0]; rfl
                go_wp2
                refine bodyPost_end (results_none rfl _ _ _) rfl ?_
                exact ⟨rfl, by rw [← hdd]; exact S10.out⟩
            · have he2z : ¬ (mid : Int) < (e : Int) := by omega
              have h0 : L2 = [] := List.eq_nil_of_length_eq_zero (by omega)
              have hdd : d2 = T := by rw [HFIN.out R2 (by rw [h0, mrg_nil_l]), HD3.out, h0]; rfl
              go_wp2
              refine bodyPost_end (results_none rfl _ _ _) rfl ?_
              exact ⟨rfl, by rw [← hdd]; exact S10.out⟩
theorem symMerge_s (enc : α → Value) (kk : α → Nat) (cf : α → α → Int) (hcf : ∀ x y, cf x y = (kk y : Int) - kk x) (g : Nat) (cb : Array Value) (blk off cap sz : Nat) (d0 : Array α) (w0 : World)
    (eg : ∀ args w, (callFunc g args).run Tryz.prog w = .ok (.enter g args) w) (hcmp : CmpLays1 Tryz.prog g cb enc cf blk off d0.size w0) (R : Row1 enc w0 blk off d0) (hs : d0.size = sz) (hsz : sz < 4611686018427387904) :
    ∀ (N : Nat) (A X Y B : List α) (d : Array α) (a m b : Nat) (w : World), X.length + Y.length ≤ N → X ≠ [] → Y ≠ [] → d = (A ++ (X ++ (Y ++ B))).toArray → d.size = sz → A.length = a → a + X.length = m → m + Y.length = b → SW enc w0 blk off d w → SrtK kk X → SrtK kk Y →
    Calls Tryz.prog 163 #[.slice (some ⟨blk, off, none⟩) sz cap, .int .i64 a, .int .i64 m, .int .i64 b, .func (.func g) #[] cb] w fun e w' => e = .returned (.tuple #[]) ∧ SW enc w0 blk off (A ++ (mrg kk X Y ++ B)).toArray w' := by
  intro N
  induction N with
  | zero => intro A X Y B d a m b w hN hX; exact absurd (List.eq_nil_of_length_eq_zero (by omega)) hX
  | succ N ih =>
    intro A X Y B d a m b w hN hX hY hd hds hA hm hb S hSX hSY
    by_cases h1 : X.length = 1
    · exact sym_left enc kk cf hcf g cb blk off cap sz d0 w0 eg hcmp R hs hsz A X Y B d a m b w h1 hX hY hd hds hA hm hb S hSX hSY
    · by_cases h2 : Y.length = 1
      · exact sym_right enc kk cf hcf g cb blk off cap sz d0 w0 eg hcmp R hs hsz A X Y B d a m b w h1 h2 hX hY hd hds hA hm hb S hSX hSY
      · exact sym_two enc kk cf hcf g cb blk off cap sz d0 w0 eg hcmp R hs hsz N ih A X Y B d a m b w hN h1 h2 hX hY hd hds hA hm hb S hSX hSY
end Go.Proofs.YtkenianfpfamcaaGreatDoor
