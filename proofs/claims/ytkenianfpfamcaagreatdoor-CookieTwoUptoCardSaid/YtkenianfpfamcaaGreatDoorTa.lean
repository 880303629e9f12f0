/- The document's New and Sweep; the law's kind; a jar that is nil. The law's begun for any number; the document's Set on a jar that is nil; its Sweep. -/
import Derived.Test.YtkenianfpfamcaaGreatDoorDc
import Derived.Test.YtkenianfpfamcaaGreatDoorDe
import Derived.Test.YtkenianfpfamcaaGreatDoorMn
import Derived.Test.YtkenianfpfamcaaGreatDoorJarHJ
import Derived.BigRegion
import Derived.Test.YtkenianfpfamcaaGreatDoorDocPJ
namespace Go.Proofs.YtkenianfpfamcaaGreatDoor
open Go Go.RowKit
set_option maxHeartbeats 16000000

set_option maxRecDepth 100000 in
theorem rnew_ok (m : Nat) (w : World) (h1 : 1 ≤ m) (h2 : m ≤ 3000) : Calls Tryz.prog 63 #[.int .i64 m] w fun e w' => e = .returned (.tuple #[.agg #[.int .i64 m, .slice none 0 0], .int .i64 0]) ∧ Below w.heap.size w w' := by
  have K1 := Lib.hid (CellsAt.first w [.int .i64 0, .slice none 0 0] tRJ)
  have B1 := Lib.hid (below_put2 (w := w) (cs := #[.int .i64 0, .slice none 0 0]) (T := tRJ))
  go_enter Tryz.func63, Tryz.ntmps63
  go_upto_region 1 with fail
  generalize w.alloc _ = w1 at K1 B1 ⊢
  have z0 := K1.out.at 0 _ rfl
  have z1 := K1.out.at 1 _ rfl
  have y0 := K1.out.free 0
  have y1 := K1.out.free 1
  have KE := Lib.hid (K1.out.put [.int .i64 m, .slice none 0 0] rfl)
  have DE := Lib.hid (putAll_below [.int .i64 m, .slice none 0 0] 0 _ _ B1.out (Nat.le_refl w.heap.size))
  unfold putAll putAll putAll at KE DE
  have f0 := KE.out.at 0 _ rfl
  have f1 := KE.out.at 1 _ rfl
  simp only [Nat.zero_add] at DE f0 f1
  go_wp2_with fail
  all_goals (try (exfalso; omega))
  refine bodyPost_ret (v := .tuple #[.agg #[.int .i64 m, .slice none 0 0], .int .i64 0]) (by simp [results, Tryz.results63, go_sem, f0, f1]) rfl ?_
  exact ⟨rfl, DE.out⟩
set_option maxRecDepth 100000 in
theorem rnew_bad (m : Int) (w : World) (h : ¬ (1 ≤ m ∧ m ≤ 3000)) : Calls Tryz.prog 63 #[.int .i64 m] w fun e w' => e = .returned (.tuple #[.agg #[.int .i64 0, .slice none 0 0], .int .i64 1]) ∧ Below w.heap.size w w' := by
  have K1 := Lib.hid (CellsAt.first w [.int .i64 0, .slice none 0 0] tRJ)
  have B1 := Lib.hid (below_put2 (w := w) (cs := #[.int .i64 0, .slice none 0 0]) (T := tRJ))
  have hm : m < 1 ∨ (1 ≤ m ∧ 3000 < m) := by omega
  clear h
  go_enter Tryz.func63, Tryz.ntmps63
  go_upto_region 1 with fail
  generalize w.alloc _ = w1 at K1 B1 ⊢
  have z0 := K1.out.at 0 _ rfl
  have z1 := K1.out.at 1 _ rfl
  have y0 := K1.out.free 0
  have y1 := K1.out.free 1
  have KE := Lib.hid (K1.out.put [.int .i64 0, .slice none 0 0] rfl)
  have DE := Lib.hid (putAll_below [.int .i64 0, .slice none 0 0] 0 _ _ B1.out (Nat.le_refl w.heap.size))
  unfold putAll putAll putAll at KE DE
  have f0 := KE.out.at 0 _ rfl
  have f1 := KE.out.at 1 _ rfl
  simp only [Nat.zero_add] at DE f0 f1
  rcases hm with h | ⟨h, h'⟩
  all_goals
    go_wp2_with fail
    all_goals (try (exfalso; omega))
    refine bodyPost_ret (v := .tuple #[.agg #[.int .i64 0, .slice none 0 0], .int .i64 1]) (by simp [results, Tryz.results63, go_sem, f0, f1]) rfl ?_
    exact ⟨rfl, DE.out⟩
theorem tmod5 (k : Int) : -4 ≤ Int.tmod k 5 ∧ Int.tmod k 5 ≤ 4 := by
  have h1 := Int.tmod_lt_of_pos k (b := 5) (by decide)
  have h2 := Int.lt_tmod_of_pos k (b := 5) (by decide)
  omega
theorem tmod5n (k : Int) (h : 0 ≤ k) : 0 ≤ Int.tmod k 5 ∧ Int.tmod k 5 ≤ 4 := by
  have h1 := Int.tmod_lt_of_pos k (b := 5) (by decide)
  have h2 := Int.tmod_nonneg 5 h
  omega
/-- a kind of calls: one of five -/
theorem kind_any (k : Int) (w : World) : Calls Tryz.prog 76 #[.int .i64 k, .int .i64 5] w fun e w' => (∃ r : Nat, r < 5 ∧ e = .returned (.int .i64 r)) ∧ w = w' := by
  have e1 := tmod5 k
  have e2 := tmod5n (Int.tmod k 5 + 5) (by omega)
  obtain ⟨r, hr⟩ : ∃ r : Nat, Int.tmod (Int.tmod k 5 + 5) 5 = r := ⟨(Int.tmod (Int.tmod k 5 + 5) 5).toNat, by omega⟩
  go_enter Tryz.func76, Tryz.ntmps76
  go_wp2_with fail
  go_ret
  exact ⟨⟨r, by omega, by rw [← hr]; rfl⟩, rfl⟩
set_option maxRecDepth 100000 in
theorem set_nil (v : Value) (host path : ByteArray) (sec : Bool) (now : Int) (c : SetC) (w : World) (hv : v = .agg (cellsS c).toArray) : Calls Tryz.prog 26 #[.pointer none, v, .string host, .string path, .bool sec, .int .i64 now] w fun e w' => e = .returned (.int .i64 1) ∧ Below w.heap.size w w' := by
  subst hv
  have B1 := Lib.hid (below_put2 (w := w) (cs := (cellsS c).toArray) (T := tS))
  obtain ⟨nm, v, pp, d, ma, hm, ex, he, sc, ht, sm⟩ := c
  unfold cellsS at B1 ⊢
  go_enter Tryz.func26, Tryz.ntmps26
  go_upto_region 1 with fail
  generalize w.alloc _ = w1 at B1 ⊢
  go_wp2_with fail
  go_ret
  exact ⟨rfl, B1.out⟩
theorem get_nil (w : World) (host path : ByteArray) (sec : Bool) (now : Int) : Calls Tryz.prog 27 #[.pointer none, .string host, .string path, .bool sec, .int .i64 now] w fun e w' => (∃ v, e = .returned v ∧ CkRow w' w.heap.size v []) ∧ Below w.heap.size w w' := by
  go_enter Tryz.func27, Tryz.ntmps27
  go_wp2_with fail
  refine (order_nil w).mono ?_; rintro e w1 ⟨⟨v, rfl, sp, cap, rfl, hsp⟩, hb1⟩
  have B1 := Lib.hid hb1
  clear hb1
  simp only [List.length_nil]
  go_wp2_with fail
  go_loopw [11, 13, 14, 21] (fun out _ _ i wr => i = .int .i64 0 ∧ out = .slice none 0 0 ∧ wr = w1) (fun _ _ _ _ _ => 0)
  case atStart => exact ⟨rfl, rfl, rfl⟩
  case round =>
    obtain ⟨rfl, rfl, rfl⟩ := hrel
    have STB := Lib.hid (stable_none none 0 wr)
    go_wp2_with fail
    refine STB.out.mono ?_; rintro e w2 ⟨rfl, rfl⟩
    go_wp2_with fail
    go_loopw [15, 17, 83] (fun out _ i wx => i = .int .i64 0 ∧ out = .slice none 0 0 ∧ wx = wr) (fun _ _ _ _ => 0)
    case atStart => exact ⟨rfl, rfl, rfl⟩
    case round =>
      obtain ⟨rfl, rfl, rfl⟩ := hrel
      go_wp2_with fail
      go_ret
      exact ⟨⟨_, rfl, World.ownsRow_nil ..⟩, B1.out⟩
theorem all_nil (w : World) : Calls Tryz.prog 28 #[.pointer none] w fun e w' => (∃ v, e = .returned v ∧ SetRow w' w.heap.size v []) ∧ Below w.heap.size w w' := by
  go_enter Tryz.func28, Tryz.ntmps28
  go_wp2_with fail
  refine (order_nil w).mono ?_; rintro e w1 ⟨⟨v, rfl, sp, cap, rfl, hsp⟩, hb1⟩
  have B1 := Lib.hid hb1
  clear hb1
  simp only [List.length_nil]
  go_wp2_with fail
  go_loopw [3, 5, 9] (fun out _ i wr => i = .int .i64 0 ∧ out = .slice none 0 0 ∧ wr = w1) (fun _ _ _ _ => 0)
  case atStart => exact ⟨rfl, rfl, rfl⟩
  case round =>
    obtain ⟨rfl, rfl, rfl⟩ := hrel
    go_wp2_with fail
    go_ret
    exact ⟨⟨_, rfl, World.ownsRow_nil ..⟩, B1.out⟩
end Go.Proofs.YtkenianfpfamcaaGreatDoor
namespace Go.Proofs.YtkenianfpfamcaaGreatDoor
open Go Go.RowKit
set_option maxHeartbeats 16000000

set_option maxRecDepth 100000 in
theorem begun_ok (m : Nat) (h1 : 1 ≤ m) (h2 : m ≤ 3000) (w : World) : Calls Tryz.prog 24 #[.int .i64 m] w fun e w' => (∃ jb mb, e = .returned (.tuple #[.pointer (some ⟨jb, 0, none⟩), .agg #[.int .i64 m, .slice none 0 0], .bool true]) ∧ JarAt w' jb mb m 0 [] ∧ w.heap.size ≤ jb ∧ w.heap.size ≤ mb) ∧ Below w.heap.size w w' := by
  have K1 := Lib.hid (CellsAt.first w [.int .i64 0, .slice none 0 0] tRJ)
  have B1 := Lib.hid (below_put2 (w := w) (cs := #[.int .i64 0, .slice none 0 0]) (T := tRJ))
  have RN := Lib.hid (fun wx => rnew_ok m wx h1 h2)
  go_enter Tryz.func24, Tryz.ntmps24
  go_upto_region 1 with fail
  obtain ⟨b, hb⟩ := name_it w.heap.size
  have HB : Hid (w.heap.size = b) := hb.out
  rw [hb.out] at K1 ⊢
  clear hb
  generalize w.alloc _ = w1 at K1 B1 ⊢
  have HL1 : Hid (b < w1.heap.size) := K1.out.lt
  go_wp2_with fail
  refine (new_any m w1 h1 h2).mono ?_; rintro e w2 ⟨rfl, hJ, hb2⟩
  obtain ⟨mb, hmb⟩ := name_it w1.heap.size
  obtain ⟨jb, hjb⟩ : ∃ jb, jb = w1.heap.size + 1 := ⟨_, rfl⟩
  have GJ : Hid (b < jb ∧ b < mb ∧ w.heap.size ≤ jb ∧ w.heap.size ≤ mb) := by
    have h1 := HL1.out
    have h2 := B1.out.size
    have h3 := hmb.out
    exact ⟨by omega, by omega, by omega, by omega⟩
  have J2 : Hid (JarAt w2 jb mb m 0 []) := by
    unfold Hid
    rw [hjb, ← hmb.out]
    exact hJ
  rw [← hjb]
  have K2 := Lib.hid (K1.out.next hb2)
  have B2 := Lib.hid (B1.out.trans (hb2.mono B1.out.size))
  clear hJ hb2 hmb hjb K1 B1 HL1
  go_wp2_with fail
  refine (RN.out _).mono ?_; rintro e w3 ⟨rfl, hb3⟩
  have K3 := Lib.hid (K2.out.next hb3)
  have J3 := Lib.hid (J2.out.next_ hb3)
  have B3 := Lib.hid (B2.out.trans (hb3.mono B2.out.size))
  clear K2 J2 B2 hb3 RN
  have b4 := below_put2 (w := w3) (cs := #[.int .i64 m, .slice none 0 0]) (T := tRJ)
  have K4 := Lib.hid (K3.out.next b4)
  have J4 := Lib.hid (J3.out.next_ b4)
  have B4 := Lib.hid (B3.out.trans (b4.mono B3.out.size))
  have C4 := Lib.hid (CellsAt.first w3 [.int .i64 m, .slice none 0 0] tRJ)
  clear K3 J3 B3 b4
  go_upto_region 3 with fail
  obtain ⟨rb, hrb⟩ := name_it w3.heap.size
  rw [hrb.out] at C4 ⊢
  clear hrb
  generalize w3.alloc _ = w4 at K4 J4 B4 C4 ⊢
  have c0 := C4.out.at 0 _ rfl
  have c1 := C4.out.at 1 _ rfl
  have z0 := K4.out.at 0 _ rfl
  have z1 := K4.out.at 1 _ rfl
  have y0 := K4.out.free 0
  have y1 := K4.out.free 1
  have KE := K4.out.put [.int .i64 m, .slice none 0 0] rfl
  have DE := putAll_below [.int .i64 m, .slice none 0 0] 0 _ _ B4.out (show w.heap.size ≤ b by rw [HB.out]; exact Nat.le_refl _)
  have JE := J4.out.keeps (Keeps.put (S := fun i => i = b) (b := b) rfl [.int .i64 m, .slice none 0 0] 0 w4) (fun e => by have := GJ.out; omega) (fun e => by have := GJ.out; omega) (fun x hx => by cases hx)
  have bd := (Below.refl (putAll w4 b 0 [.int .i64 m, .slice none 0 0]).heap.size (putAll w4 b 0 [.int .i64 m, .slice none 0 0])).drew
  have KE := Lib.hid (KE.next bd)
  have DE := Lib.hid (DE.trans (bd.mono DE.size))
  have JE := Lib.hid (JE.next_ bd)
  unfold putAll putAll putAll at KE DE JE
  have f0 := KE.out.at 0 _ rfl
  have f1 := KE.out.at 1 _ rfl
  simp only [Nat.zero_add] at DE f0 f1 JE
  clear K4 J4 B4 KE bd
  go_region
  go_wp2_with fail
  refine bodyPost_ret (v := .tuple #[.pointer (some ⟨jb, 0, none⟩), .agg #[.int .i64 m, .slice none 0 0], .bool true]) (by simp [results, Tryz.results24, go_sem, f0, f1]) rfl ?_
  exact ⟨⟨jb, mb, rfl, JE.out, GJ.out.2.2.1, GJ.out.2.2.2⟩, DE.out⟩
set_option maxRecDepth 100000 in
theorem begun_bad (m : Int) (hm : ¬ (1 ≤ m ∧ m ≤ 3000)) (w : World) : Calls Tryz.prog 24 #[.int .i64 m] w fun e w' => e = .returned (.tuple #[.pointer none, .agg #[.int .i64 0, .slice none 0 0], .bool true]) ∧ Below w.heap.size w w' := by
  have K1 := Lib.hid (CellsAt.first w [.int .i64 0, .slice none 0 0] tRJ)
  have B1 := Lib.hid (below_put2 (w := w) (cs := #[.int .i64 0, .slice none 0 0]) (T := tRJ))
  have RN := Lib.hid (fun wx => rnew_bad m wx hm)
  go_enter Tryz.func24, Tryz.ntmps24
  go_upto_region 1 with fail
  obtain ⟨b, hb⟩ := name_it w.heap.size
  have HB : Hid (w.heap.size = b) := hb.out
  rw [hb.out] at K1 ⊢
  clear hb
  generalize w.alloc _ = w1 at K1 B1 ⊢
  have HL1 : Hid (b < w1.heap.size) := K1.out.lt
  go_wp2_with fail
  refine (new_bad m w1 hm).mono ?_; rintro e w2 ⟨rfl, rfl⟩
  have K2 := K1
  have B2 := B1
  clear K1 B1 HL1
  go_wp2_with fail
  refine (RN.out _).mono ?_; rintro e w3 ⟨rfl, hb3⟩
  have K3 := Lib.hid (K2.out.next hb3)
  have B3 := Lib.hid (B2.out.trans (hb3.mono B2.out.size))
  clear K2 B2 hb3 RN
  have b4 := below_put2 (w := w3) (cs := #[.int .i64 0, .slice none 0 0]) (T := tRJ)
  have K4 := Lib.hid (K3.out.next b4)
  have B4 := Lib.hid (B3.out.trans (b4.mono B3.out.size))
  have C4 := Lib.hid (CellsAt.first w3 [.int .i64 0, .slice none 0 0] tRJ)
  clear K3 B3 b4
  go_upto_region 3 with fail
  obtain ⟨rb, hrb⟩ := name_it w3.heap.size
  rw [hrb.out] at C4 ⊢
  clear hrb
  generalize w3.alloc _ = w4 at K4 B4 C4 ⊢
  have c0 := C4.out.at 0 _ rfl
  have c1 := C4.out.at 1 _ rfl
  have z0 := K4.out.at 0 _ rfl
  have z1 := K4.out.at 1 _ rfl
  have y0 := K4.out.free 0
  have y1 := K4.out.free 1
  have KE := K4.out.put [.int .i64 0, .slice none 0 0] rfl
  have DE := putAll_below [.int .i64 0, .slice none 0 0] 0 _ _ B4.out (show w.heap.size ≤ b by rw [HB.out]; exact Nat.le_refl _)
  have bd := (Below.refl (putAll w4 b 0 [.int .i64 0, .slice none 0 0]).heap.size (putAll w4 b 0 [.int .i64 0, .slice none 0 0])).drew
  have KE := Lib.hid (KE.next bd)
  have DE := Lib.hid (DE.trans (bd.mono DE.size))
  unfold putAll putAll putAll at KE DE
  have f0 := KE.out.at 0 _ rfl
  have f1 := KE.out.at 1 _ rfl
  simp only [Nat.zero_add] at DE f0 f1
  clear K4 B4 KE bd
  go_region
  go_wp2_with fail
  refine bodyPost_ret (v := .tuple #[.pointer none, .agg #[.int .i64 0, .slice none 0 0], .bool true]) (by simp [results, Tryz.results24, go_sem, f0, f1]) rfl ?_
  exact ⟨rfl, DE.out⟩
set_option maxRecDepth 100000 in
theorem rset_nil (q : Option Addr) (cap : Nat) (c : SetC) (host path : List UInt8) (sec : Bool) (now : Int) (w : World) :
    Calls Tryz.prog 25 #[.agg #[.int .i64 0, .slice q 0 cap], .agg (cellsS c).toArray, .agg #[.string (bs host), .string (bs path), .bool sec, .int .i64 now]] w fun e w' => e = .returned (.tuple #[.agg #[.int .i64 0, .slice q 0 cap], .int .i64 1]) ∧ Below w.heap.size w w' := by
  obtain ⟨F1, F2, F3, F4, F5⟩ := four (w := w) [.int .i64 0, .slice q 0 cap] (cellsS c) [.string (bs host), .string (bs path), .bool sec, .int .i64 now] [.int .i64 0, .slice none 0 0] tRJ tRS tLn tRJ
  have R1 := Lib.hid (show Rs w w.heap.size 0 q 0 cap c host path sec now _ from ⟨F1, F2, F3, F4, F5, Nat.le_refl _⟩)
  clear F1 F2 F3 F4 F5
  obtain ⟨nm, v, pp, d, ma, hm, ex, he, sc, ht, sm⟩ := c
  unfold cellsS at R1 ⊢
  simp only at R1 ⊢
  go_enter Tryz.func25, Tryz.ntmps25
  go_upto_region 1 with fail
  obtain ⟨b, hb⟩ := name_it w.heap.size
  rw [hb.out] at R1 ⊢
  have R1 : Hid (Rs w b 0 q 0 cap (⟨nm, v, pp, d, ma, hm, ex, he, sc, ht, sm⟩ : SetC) host path sec now _) := R1
  generalize World.alloc _ _ = w1 at R1 ⊢
  have j0 := R1.out.kj.at 0 _ rfl
  have j1 := R1.out.kj.at 1 _ rfl
  have z0 := R1.out.kr.at 0 _ rfl
  have z1 := R1.out.kr.at 1 _ rfl
  have y0 := R1.out.kr.free 0
  have y1 := R1.out.kr.free 1
  obtain ⟨KE0, DE0⟩ := R1.out.ret
  have KE := Lib.hid KE0
  have DE := Lib.hid DE0
  clear KE0 DE0
  unfold putAll putAll putAll at KE DE
  have f0 := KE.out.at 0 _ rfl
  have f1 := KE.out.at 1 _ rfl
  simp only [Nat.zero_add] at DE f0 f1
  go_wp2_with fail
  refine bodyPost_ret (v := .tuple #[.agg #[.int .i64 0, .slice q 0 cap], .int .i64 1]) (by simp [results, Tryz.results25, go_sem, f0, f1]) rfl ?_
  exact ⟨rfl, DE.out⟩
set_option maxRecDepth 100000 in
theorem rsweep_any (most : Int) (p : Option Addr) (cap : Nat) (l : List Kp) (now : Int) (w : World) (hL : KpL w p l) (hl : l.length ≤ 1048576) :
    Calls Tryz.prog 77 #[.agg #[.int .i64 most, .slice p l.length cap], .int .i64 now] w fun e w' => (∃ q cap', e = .returned (.tuple #[.agg #[.int .i64 most, .slice q (sweepC l now).length cap'], .int .i64 ((l.length : Int) - (sweepC l now).length)]) ∧ (sweepC l now).length ≤ cap' ∧ KpL w' q (sweepC l now) ∧ (∀ g off, q = some ⟨g, off, none⟩ → w.heap.size ≤ g)) ∧ Below w.heap.size w w' := by
  have K1 := Lib.hid (CellsAt.first w [.int .i64 most, .slice p l.length cap] tRJ)
  have B1 := Lib.hid (below_put2 (w := w) (cs := #[.int .i64 most, .slice p l.length cap]) (T := tRJ))
  have B2 := Lib.hid (B1.out.alloc B1.out.size (.cells #[.int .i64 0, .slice none 0 0] tRJ))
  have K2 := Lib.hid (CellsAt.first (w.alloc (.cells #[.int .i64 most, .slice p l.length cap] tRJ)) [.int .i64 0, .slice none 0 0] tRJ)
  have L2 := Lib.hid (hL.next B2.out)
  have K1b := Lib.hid (K1.out.next (below_put2 (w := w.alloc (.cells #[.int .i64 most, .slice p l.length cap] tRJ)) (cs := #[.int .i64 0, .slice none 0 0]) (T := tRJ)))
  have hsz : (w.alloc (.cells #[.int .i64 most, .slice p l.length cap] tRJ)).heap.size = w.heap.size + 1 := by
    show (w.heap.push _).size = _
    rw [Array.size_push]
  rw [hsz] at K2
  have HSL := Lib.hid (sweep_length l now)
  obtain ⟨sl, hsl⟩ := name_it (sweepC l now)
  have HSE : Hid (sweepC l now = sl) := hsl
  rw [hsl.out] at HSL ⊢
  clear hL K1 B1 hsz hsl
  go_enter Tryz.func77, Tryz.ntmps77
  go_upto_region 1 with fail
  obtain ⟨b, hb⟩ := name_it w.heap.size
  obtain ⟨r, hr⟩ := name_it (b + 1)
  have HB : Hid (w.heap.size = b ∧ b + 1 = r) := ⟨hb.out, hr.out⟩
  rw [hb.out] at K1b K2 ⊢
  rw [hr.out] at K2 ⊢
  clear hb hr
  generalize World.alloc _ _ = w1 at K2 K1b B2 L2 ⊢
  have HW1 : Hid (b < w1.heap.size ∧ r < w1.heap.size) := ⟨K1b.out.lt, K2.out.lt⟩
  have WO := Lib.hid (rwithout_any most p cap l now w1 L2.out hl)
  rw [HSE.out] at WO
  have d0 := K1b.out.at 0 _ rfl
  have d1 := K1b.out.at 1 _ rfl
  go_wp2_with fail
  refine WO.out.mono ?_; rintro e w2 ⟨⟨q, cq, rfl, hcq, hlq, hgq⟩, hb2⟩
  have K3 := Lib.hid (K1b.out.next hb2)
  have R3 := Lib.hid (K2.out.next hb2)
  have D3 := Lib.hid (B2.out.trans (hb2.mono B2.out.size))
  have GQ : Hid (∀ g off, q = some ⟨g, off, none⟩ → b ≠ g ∧ r ≠ g ∧ w.heap.size ≤ g) := fun g off h => by
    have h1 := hgq g off h
    have h2 := HW1.out
    have h3 := B2.out.size
    exact ⟨by omega, by omega, by omega⟩
  have CQ := Lib.hid hcq
  have i0 := K3.out.at 0 _ rfl
  have i1 := K3.out.at 1 _ rfl
  have y0 := K3.out.free 0
  have y1 := K3.out.free 1
  have K4 := Lib.hid (K3.out.put [.int .i64 most, .slice q sl.length cq] rfl)
  have R4 := Lib.hid (R3.out.keeps (Keeps.put (S := fun i => i = b) (b := b) rfl [.int .i64 most, .slice q sl.length cq] 0 w2) (fun e => by have := HB.out; omega))
  have L4 := Lib.hid (hlq.far (b := b) (k := 0) (v := .int .i64 most) (fun g off h e => (GQ.out g off h).1 e.symm))
  have L5 := Lib.hid (L4.out.far (b := b) (k := 1) (v := .slice q sl.length cq) (fun g off h e => (GQ.out g off h).1 e.symm))
  have D4 := Lib.hid (putAll_below [.int .i64 most, .slice q sl.length cq] 0 _ _ D3.out (show w.heap.size ≤ b by rw [HB.out.1]; exact Nat.le_refl _))
  unfold putAll putAll putAll at K4 R4 D4
  simp only [Nat.zero_add] at K4 R4 D4
  clear K1b K2 B2 L2 WO d0 d1 hcq hlq hgq hb2 K3 R3 D3 L4
  go_upto_region 3 with fail
  generalize World.setCell _ ⟨b, 1, none⟩ _ = w4 at K4 R4 D4 L5 ⊢
  clear i0 i1 y0 y1
  have d0 := K4.out.at 0 _ rfl
  have d1 := K4.out.at 1 _ rfl
  have z0 := R4.out.at 0 _ rfl
  have z1 := R4.out.at 1 _ rfl
  have y0 := R4.out.free 0
  have y1 := R4.out.free 1
  have KE := R4.out.put [.int .i64 most, .slice q sl.length cq] rfl
  have DE := putAll_below [.int .i64 most, .slice q sl.length cq] 0 _ _ D4.out (show w.heap.size ≤ r by have := HB.out; omega)
  have L6 := (L5.out.far (b := r) (k := 0) (v := .int .i64 most) (fun g off h e => (GQ.out g off h).2.1 e.symm)).far (b := r) (k := 1) (v := .slice q sl.length cq) (fun g off h e => (GQ.out g off h).2.1 e.symm)
  have bd := (Below.refl (putAll w4 r 0 [.int .i64 most, .slice q sl.length cq]).heap.size (putAll w4 r 0 [.int .i64 most, .slice q sl.length cq])).drew
  have KE := Lib.hid (KE.next bd)
  have DE := Lib.hid (DE.trans (bd.mono DE.size))
  have LE : Hid (KpL (putAll w4 r 0 [.int .i64 most, .slice q sl.length cq]).drew q sl) := L6.next bd
  unfold putAll putAll putAll at KE DE LE
  have f0 := KE.out.at 0 _ rfl
  have f1 := KE.out.at 1 _ rfl
  simp only [Nat.zero_add] at DE f0 f1 LE
  have hsl := HSL.out
  have hbr : r ≠ b := by have := HB.out; omega
  have KB := (K4.out.other hbr 0 (.int .i64 most)).other hbr 1 (.slice q sl.length cq)
  have e1 : ((w4.setCell ⟨r, 0, none⟩ (.int .i64 most)).setCell ⟨r, 1, none⟩ (.slice q sl.length cq)).cell? ⟨b, 1, none⟩ = some (.slice q sl.length cq) := KB.at 1 _ rfl
  clear K4 R4 D4 L5 L6 KE bd KB
  go_region
  go_wp2_with fail
  refine bodyPost_ret (v := .tuple #[.agg #[.int .i64 most, .slice q sl.length cq], .int .i64 ((l.length : Int) - sl.length)]) (by simp [results, Tryz.results77, go_sem, f0, f1]) rfl ?_
  exact ⟨⟨q, cq, rfl, CQ.out, LE.out, fun g off h => (GQ.out g off h).2.2⟩, DE.out⟩
end Go.Proofs.YtkenianfpfamcaaGreatDoor
