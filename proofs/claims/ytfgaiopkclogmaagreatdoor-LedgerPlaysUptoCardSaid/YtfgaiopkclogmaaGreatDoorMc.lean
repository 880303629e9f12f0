/- Contracts of ledger: classes of bytes; a fixed text that must stand at a place. Contracts of octet: signs of tokens, by the table. Contracts of ledger's reader: its cells; a fixed text that must stand at a place. -/
import Derived.Test.YtfgaiopkclogmaaGreatDoorMb
import Derived.Deep.RegionLaw
namespace Go.Proofs.YtfgaiopkclogmaaGreatDoor
open Go Go.RowKit
set_option maxHeartbeats 2000000

def nameN (n : Nat) : Bool := decide ((97 ≤ n ∧ n ≤ 122) ∨ (65 ≤ n ∧ n ≤ 90) ∨ (48 ≤ n ∧ n ≤ 57) ∨ n = 45 ∨ n = 95 ∨ n = 46)
theorem nameN_all : ∀ p : Fin 256, nameB (UInt8.ofNat p.val) = nameN (UInt8.ofNat p.val).toNat := by decide +kernel
theorem nameN_of (c : UInt8) : nameB c = nameN c.toNat := by
  have := nameN_all ⟨c.toNat, c.toNat_lt⟩
  rw [show UInt8.ofNat (Fin.val (⟨c.toNat, c.toNat_lt⟩ : Fin 256)) = c from UInt8.ofNat_toNat] at this
  exact this
theorem isname_any (c : UInt8) (w : World) : Calls Tryz.prog 54 #[.int .u8 c.toNat] w fun e w' => e = .returned (.bool (nameB c)) ∧ w = w' := by
  rw [nameN_of]
  obtain ⟨R, hR⟩ := name_it (nameN c.toNat)
  rw [hR.out]
  go_enter Tryz.func54, Tryz.ntmps54
  go_wp2
  all_goals go_ret
  all_goals exact ⟨ret_bool (by rw [← hR.out, Bool.eq_iff_iff]; (try simp only [] at *); simp [nameN]; omega), rfl⟩
theorem istarget_any (c : UInt8) (w : World) : Calls Tryz.prog 56 #[.int .u8 c.toNat] w fun e w' => e = .returned (.bool (tgtB c)) ∧ w = w' := by
  obtain ⟨R, hR⟩ := name_it (tgtB c)
  rw [hR.out]
  go_enter Tryz.func56, Tryz.ntmps56
  go_wp2
  all_goals go_ret
  all_goals exact ⟨ret_bool (by rw [← hR.out, Bool.eq_iff_iff]; (try simp only [] at *); simp [tgtB]; omega), rfl⟩
theorem rname_any (c : UInt8) (w : World) : Calls Tryz.prog 65 #[.int .u8 c.toNat] w fun e w' => e = .returned (.bool (nameB c)) ∧ w = w' := by
  rw [nameN_of]
  obtain ⟨R, hR⟩ := name_it (nameN c.toNat)
  rw [hR.out]
  cases h1 : isLet c
  · cases h2 : isDig c
    · have HL := Lib.hid (isletter_any c w)
      have HD := Lib.hid (isdigit_any c w)
      rw [h1] at HL
      rw [h2] at HD
      go_enter Tryz.func65, Tryz.ntmps65
      go_wp2_with fail
      refine HL.out.mono ?_; rintro e w' ⟨rfl, rfl⟩
      go_wp2_with fail
      refine HD.out.mono ?_; rintro e w' ⟨rfl, rfl⟩
      go_wp2_with fail
      all_goals go_ret
      all_goals exact ⟨ret_bool (by rw [← hR.out, Bool.eq_iff_iff]; unfold isLet at h1; unfold isDig at h2; simp at h1 h2; (try simp only [] at *); simp [nameN]; omega), rfl⟩
    · have HL := Lib.hid (isletter_any c w)
      have HD := Lib.hid (isdigit_any c w)
      rw [h1] at HL
      rw [h2] at HD
      go_enter Tryz.func65, Tryz.ntmps65
      go_wp2_with fail
      refine HL.out.mono ?_; rintro e w' ⟨rfl, rfl⟩
      go_wp2_with fail
      refine HD.out.mono ?_; rintro e w' ⟨rfl, rfl⟩
      go_wp2_with fail
      all_goals go_ret
      all_goals exact ⟨ret_bool (by rw [← hR.out, Bool.eq_iff_iff]; unfold isDig at h2; simp at h2; (try simp only [] at *); simp [nameN]; omega), rfl⟩
  · have HL := Lib.hid (isletter_any c w)
    rw [h1] at HL
    go_enter Tryz.func65, Tryz.ntmps65
    go_wp2_with fail
    refine HL.out.mono ?_; rintro e w' ⟨rfl, rfl⟩
    go_wp2_with fail
    all_goals go_ret
    all_goals exact ⟨ret_bool (by rw [← hR.out, Bool.eq_iff_iff]; unfold isLet at h1; simp at h1; (try simp only [] at *); simp [nameN]; omega), rfl⟩
end Go.Proofs.YtfgaiopkclogmaaGreatDoor
namespace Go.Proofs.YtfgaiopkclogmaaGreatDoor
open Go Go.RowKit
set_option maxHeartbeats 4000000

def signsT : List Nat := [0, 67071226, 3355443198, 1476395007]
/-- what the program's variable holds -/
structure EnvT (w : World) : Prop where
  n : 5 ≤ w.heap.size
  sg : ∀ j, j < 4 → w.cell? ⟨1, j, none⟩ = some (.int .u32 ((signsT.getD j 0 : Nat) : Int))
theorem EnvT.next {w w' : World} (h : EnvT w) (hb : Below w.heap.size w w') : EnvT w' where
  n := Nat.le_trans h.n hb.size
  sg j hj := by rw [hb.cell (p := ⟨1, j, none⟩) (Nat.lt_of_lt_of_le (by show 1 < 5; decide) h.n)]; exact h.sg j hj

theorem signs_low : ∀ p : Fin 128, (bits BinOp.and IntKind.u32 (((signsT.getD (p.val / 32) 0 : Nat) : Int) / 2 ^ (p.val % 32)) 1 == 1) = signB (UInt8.ofNat p.val) := by decide +kernel
theorem signs_high : ∀ p : Fin 256, 128 ≤ p.val → signB (UInt8.ofNat p.val) = false := by decide +kernel

set_option maxRecDepth 100000 in
theorem osign_any (c : UInt8) (w : World) (hE : EnvT w) : Calls Tryz.prog 111 #[.int .u8 c.toNat] w fun e w' => e = .returned (.bool (signB c)) ∧ w = w' := by
  obtain ⟨R, hR⟩ := name_it (signB c)
  rw [hR.out]
  by_cases h : c.toNat < 128
  · have hc := hE.sg (c.toNat / 32) (by omega)
    obtain ⟨T, hT⟩ := name_it ((signsT.getD (c.toNat / 32) 0 : Nat) : Int)
    rw [hT.out] at hc
    have q0 : (0 : Int) ≤ (c.toNat : Int) := by omega
    have q1 : (c.toNat : Int) < 128 := by omega
    go_enter Tryz.func111, Tryz.ntmps111
    go_wp2_with fail
    all_goals (try (exfalso; omega))
    go_ret
    refine ⟨ret_bool ?_, rfl⟩
    rw [← hT.out, ← hR.out]
    have := signs_low ⟨c.toNat, h⟩
    rw [show UInt8.ofNat (Fin.val (⟨c.toNat, h⟩ : Fin 128)) = c from UInt8.ofNat_toNat] at this
    exact this
  · have hf : Hid (R = false) := by
      have := signs_high ⟨c.toNat, c.toNat_lt⟩ (by show 128 ≤ c.toNat; omega)
      rw [show UInt8.ofNat (Fin.val (⟨c.toNat, c.toNat_lt⟩ : Fin 256)) = c from UInt8.ofNat_toNat] at this
      rw [← hR.out]; exact this
    clear hR
    go_enter Tryz.func111, Tryz.ntmps111
    go_wp2_with fail
    all_goals (try (exfalso; omega))
    go_ret
    exact ⟨ret_bool hf.out.symm, rfl⟩

set_option maxRecDepth 100000 in
theorem istoken_any (s : ByteArray) (w : World) (hE : EnvT w) (hs : s.size ≤ 1073741824) : Calls Tryz.prog 81 #[.string s] w fun e w' => e = .returned (.bool ((L s).all signB && decide (L s ≠ []))) ∧ w = w' := by
  obtain ⟨R, hR⟩ := name_it ((L s).all signB && decide (L s ≠ []))
  rw [hR.out]
  have HS := Lib.hid (fun c => osign_any c w hE)
  obtain ⟨A, hA⟩ := name_it ((L s).all signB)
  rw [hA.out] at hR
  go_enter Tryz.func81, Tryz.ntmps81
  go_wp2_with fail
  go_loop [3, 6] (fun _ i => ∃ k : Nat, k ≤ s.size ∧ i = .int .i64 k ∧ Hid (((L s).drop k).all signB = A)) (fun _ i => s.size - (intOf i).toNat)
  case atStart => exact ⟨0, Nat.zero_le _, rfl, hA⟩
  case round =>
    obtain ⟨k, hk, rfl, hr⟩ := hrel
    by_cases hlt : k < s.size
    · cases hb : signB s[k]
      · have hr2 := hr.out
        rw [L_drop hlt, List.all_cons, hb] at hr2
        have hf : Hid (R = false) := by rw [← hR.out, ← hr2]; rfl
        have HK := Lib.hid (HS.out s[k])
        rw [hb] at HK
        clear hr2 hr
        go_wp2_with (go_at_call 111; refine HK.out.mono ?_; rintro e w' ⟨rfl, rfl⟩)
        go_ret
        exact ⟨ret_bool hf.out.symm, rfl⟩
      · have hr2 := hr.out
        rw [L_drop hlt, List.all_cons, hb] at hr2
        have HR := Lib.hid hr2
        have HK := Lib.hid (HS.out s[k])
        rw [hb] at HK
        clear hr2 hr
        go_wp2_with (go_at_call 111; refine HK.out.mono ?_; rintro e w' ⟨rfl, rfl⟩)
        go_round
        case rel => exact ⟨k + 1, by omega, by go_num, Lib.hid (by have h := HR.out; simpa using h)⟩
        case measure => simp [intOf]; omega
    · obtain rfl : k = s.size := by omega
      rw [L_drop_all] at hr
      have hA2 : Hid (A = true) := hr.out.symm
      have hR2 : Hid (R = decide (L s ≠ [])) := by rw [← hR.out, hA2.out]; unfold Hid; rw [Bool.true_and]
      clear hr
      go_wp2_with fail
      go_ret
      exact ⟨ret_bool (by rw [hR2.out]; (try simp only []); simp; exact str_empty s), rfl⟩

set_option maxRecDepth 100000 in
theorem issign_any (c : UInt8) (w : World) (hE : EnvT w) : Calls Tryz.prog 55 #[.int .u8 c.toNat] w fun e w' => e = .returned (.bool (signB c)) ∧ Below w.heap.size w w' := by
  obtain ⟨R, hR⟩ := name_it (signB c)
  rw [hR.out]
  have HE := Lib.hid hE; clear hE
  have hcv : (convert 59 9 (.slice (some ⟨w.heap.size, 0, none⟩) 1 1)).run Tryz.prog (w.alloc (.cells #[.int .u8 c.toNat] 5)) = .ok (.string (bs [c])) (w.alloc (.cells #[.int .u8 c.toNat] 5)) := by
    refine run_convert_bytes_back _ 59 9 5 ⟨w.heap.size, 0, none⟩ 1 [c] Tryz.underlying59 Tryz.underlying5 Tryz.underlying9 fun j hj => ?_
    obtain rfl : j = 0 := by simp at hj; omega
    exact World.cell?_alloc_mark w #[.int .u8 c.toNat] 5 (0, 0) 0
  have hb1 : Below w.heap.size w (w.alloc (.cells #[.int .u8 c.toNat] 5)) := (Below.refl _ _).alloc (Nat.le_refl _) _
  have HK := Lib.hid (istoken_any (bs [c]) _ (HE.out.next hb1) (by rw [size_bs]; show 1 ≤ 1073741824; decide))
  have hv : ((L (bs [c])).all signB && decide (L (bs [c]) ≠ [])) = R := by rw [← hR.out, L_bs]; simp
  rw [hv] at HK
  go_enter Tryz.func55, Tryz.ntmps55
  go_wp2_with fail
  refine HK.out.mono ?_; rintro e w' ⟨rfl, rfl⟩
  go_wp2_with fail
  go_ret
  exact ⟨rfl, hb1⟩
end Go.Proofs.YtfgaiopkclogmaaGreatDoor
namespace Go.Proofs.YtfgaiopkclogmaaGreatDoor
open Go Go.RowKit
set_option maxHeartbeats 4000000

/-- the reader's cells -/
structure Rdr (w : World) (g : Nat) (s : ByteArray) (st : St) : Prop where
  c0 : w.cell? ⟨g, 0, none⟩ = some (.string s)
  c1 : w.cell? ⟨g, 1, none⟩ = some (.int .i64 st.1)
  c2 : w.cell? ⟨g, 2, none⟩ = some (.bool st.2)
  f1 : w.frozen? ⟨g, 1, none⟩ = false
  f2 : w.frozen? ⟨g, 2, none⟩ = false
  lt : g < w.heap.size
theorem Rdr.new (w : World) (s : ByteArray) (T : TypeId) : Rdr (w.alloc (.cells #[.string s, .int .i64 0, .bool false] T)) w.heap.size s (0, false) where
  c0 := World.cell?_alloc_mark w #[.string s, .int .i64 0, .bool false] T (0, 0) 0
  c1 := World.cell?_alloc_mark w #[.string s, .int .i64 0, .bool false] T (0, 0) 1
  c2 := World.cell?_alloc_mark w #[.string s, .int .i64 0, .bool false] T (0, 0) 2
  f1 := by unfold World.frozen?; rw [show (w.alloc (.cells _ T)).heap[w.heap.size]? = _ from heap_alloc_new w _]; rfl
  f2 := by unfold World.frozen?; rw [show (w.alloc (.cells _ T)).heap[w.heap.size]? = _ from heap_alloc_new w _]; rfl
  lt := by show w.heap.size < (w.heap.push _).size; rw [Array.size_push]; omega
theorem Rdr.next {w w' : World} {g B : Nat} {s : ByteArray} {st : St} (h : Rdr w g s st) (hb : Below B w w') (hB : g < B) : Rdr w' g s st where
  c0 := by rw [hb.cell (p := ⟨g, 0, none⟩) hB]; exact h.c0
  c1 := by rw [hb.cell (p := ⟨g, 1, none⟩) hB]; exact h.c1
  c2 := by rw [hb.cell (p := ⟨g, 2, none⟩) hB]; exact h.c2
  f1 := by rw [hb.frozen (p := ⟨g, 1, none⟩) hB]; exact h.f1
  f2 := by rw [hb.frozen (p := ⟨g, 2, none⟩) hB]; exact h.f2
  lt := Nat.lt_of_lt_of_le h.lt hb.size
theorem Rdr.setAt {w : World} {g : Nat} {s : ByteArray} {n : Nat} {b : Bool} (h : Rdr w g s (n, b)) (m : Nat) : Rdr (w.setCell ⟨g, 1, none⟩ (.int .i64 m)) g s (m, b) where
  c0 := (World.cell?_setCell_other w ⟨g, 1, none⟩ ⟨g, 0, none⟩ _ (by simp)).trans h.c0
  c1 := World.cell?_setCell_same w ⟨g, 1, none⟩ _ h.c1
  c2 := (World.cell?_setCell_other w ⟨g, 1, none⟩ ⟨g, 2, none⟩ _ (by simp)).trans h.c2
  f1 := by simp [h.f1]
  f2 := by simp [h.f2]
  lt := by simp [h.lt]
theorem Rdr.setBad {w : World} {g : Nat} {s : ByteArray} {n : Nat} {b : Bool} (h : Rdr w g s (n, b)) (c : Bool) : Rdr (w.setCell ⟨g, 2, none⟩ (.bool c)) g s (n, c) where
  c0 := (World.cell?_setCell_other w ⟨g, 2, none⟩ ⟨g, 0, none⟩ _ (by simp)).trans h.c0
  c1 := (World.cell?_setCell_other w ⟨g, 2, none⟩ ⟨g, 1, none⟩ _ (by simp)).trans h.c1
  c2 := World.cell?_setCell_same w ⟨g, 2, none⟩ _ h.c2
  f1 := by simp [h.f1]
  f2 := by simp [h.f2]
  lt := by simp [h.lt]
/-- only a block's cells are other, and there are new blocks -/
abbrev Just (g : Nat) (w w' : World) : Prop := w.grownBy w' (some g)
theorem Just.refl (g : Nat) (w : World) : Just g w w := ⟨rfl, rfl, rfl, Nat.le_refl _, fun _ _ _ => rfl⟩
theorem Just.trans {g : Nat} {a b c : World} (h : Just g a b) (k : Just g b c) : Just g a c :=
  ⟨k.os.trans h.os, k.tape.trans h.tape, k.output.trans h.output, Nat.le_trans h.size k.size, fun i hi hne => (k.block i (Nat.lt_of_lt_of_le hi h.size) hne).trans (h.block i hi hne)⟩
theorem Just.of {g B : Nat} {w w' : World} (h : Below B w w') (hB : w.heap.size ≤ B) : Just g w w' :=
  ⟨h.os, h.tape, h.output, h.size, fun i hi _ => h.block i (Nat.lt_of_lt_of_le hi hB)⟩
theorem Just.set (g o : Nat) (w : World) (v : Value) : Just g w (w.setCell ⟨g, o, none⟩ v) := by
  have hb := (Below.refl g w).setCell (p := ⟨g, o, none⟩) (Nat.le_refl _) v
  refine ⟨hb.os, hb.tape, hb.output, hb.size, fun i _ hne => ?_⟩
  exact Below.heap_setCell w ⟨g, o, none⟩ v i (fun e => hne (congrArg some e))
theorem Just.below {g B : Nat} {w w' : World} (h : Just g w w') (hB : B ≤ g) (hw : B ≤ w.heap.size) : Below B w w' :=
  ⟨h.os, h.tape, h.output, h.size, fun i hi => h.block i (Nat.lt_of_lt_of_le hi hw) (fun e => by injection e with e; omega)⟩

set_option maxRecDepth 100000 in
theorem lit_any (g : Nat) (s text : ByteArray) (st : St) (w : World) (hr : Rdr w g s st) (hn : st.1 ≤ s.size) (hs : s.size ≤ 1073741824) (ht : text.size ≤ 1000) :
    Calls Tryz.prog 67 #[.pointer (some ⟨g, 0, none⟩), .string text] w fun e w' => e = .returned (.tuple #[]) ∧ Rdr w' g s (litS (L s) (L text) st) ∧ Just g w w' := by
  obtain ⟨F, hF⟩ := name_it (litS (L s) (L text) st)
  rw [hF.out]
  have HR := Lib.hid hr
  clear hr
  go_enter Tryz.func67, Tryz.ntmps67
  go_wp2_with fail
  go_loopw [4] (fun i wr => ∃ (k : Nat) (st' : St), k ≤ text.size ∧ i = .int .i64 k ∧ st'.1 ≤ s.size ∧ Hid (Rdr wr g s st') ∧ Hid (litS (L s) ((L text).drop k) st' = F) ∧ Hid (Just g w wr)) (fun i _ => text.size - (intOf i).toNat)
  case atStart => exact ⟨0, st, Nat.zero_le _, rfl, hn, HR, hF, Just.refl _ _⟩
  clear HR hF
  case round =>
    obtain ⟨k, st', hk, rfl, hn', hR, hl, hj⟩ := hrel
    obtain ⟨wq, hwq⟩ : ∃ wq, wq = wr := ⟨wr, rfl⟩
    subst hwq
    obtain ⟨n, b⟩ := st'
    simp only [] at hn'
    have x0 := hR.out.c0
    have x1 := hR.out.c1
    have x2 := hR.out.c2
    have y1 := hR.out.f1
    have y2 := hR.out.f2
    simp only [] at x1 x2
    by_cases hlt : k < text.size
    · cases b with
      | true =>
        have hf := Lib.hid (hl.out.symm.trans (litS_bad _ _ _))
        clear hl
        go_wp2_with fail
        refine bodyPost_end (v := .tuple #[]) ?_ ?_ ?_
        · simp [results, Tryz.results67, go_sem]
        · rfl
        rw [hf.out]
        exact ⟨rfl, hR.out, hj.out⟩
      | false =>
        have hl2 := hl.out
        rw [L_drop hlt, litS, if_neg nf] at hl2
        clear hl
        by_cases hend : n = s.size
        · rw [if_neg (by rw [List.getElem?_eq_none (by rw [L_length]; exact Nat.le_of_eq hend.symm)]; intro e; cases e)] at hl2
          have hf := Lib.hid hl2.symm
          subst hend
          clear hl2 hn'
          have e1 : ((s.size : Int) == (s.size : Int)) = true := beq_self_eq_true _
          go_wp2_with fail
          go_quiet (fail)
          have R2 := Lib.hid ((hR.out.next (below_drewN (Below.refl _ _) nq) hR.out.lt).setBad true)
          have J2 := Lib.hid ((hj.out.trans (Just.of (below_drewN (Below.refl _ _) nq) (Nat.le_refl _))).trans (Just.set g 2 (wq.drewN nq) (.bool true)))
          go_wp2_with fail
          refine bodyPost_ret (v := .tuple #[]) ?_ ?_ ?_
          · simp [results, Tryz.results67, go_sem]
          · rfl
          rw [hf.out]
          exact ⟨rfl, R2.out, J2.out⟩
        · have hlt2 : n < s.size := by omega
          have hend2 : ((n : Int) == (s.size : Int)) = false := by rw [beq_eq_false_iff_ne]; omega
          have hg : (L s)[n]? = some s[n] := by rw [List.getElem?_eq_getElem (by rw [L_length]; exact hlt2)]; rfl
          rw [hg] at hl2
          have q1 : (0 : Int) ≤ (n : Int) := by omega
          have q2 : (n : Int) < (s.size : Int) := by omega
          have q3 : (0 : Int) ≤ (k : Int) := by omega
          have q4 : (k : Int) < (text.size : Int) := by omega
          obtain ⟨c1, hc1⟩ := name_it s[n]
          obtain ⟨c2, hc2⟩ := name_it text[k]
          rw [hc1.out, hc2.out] at hl2
          by_cases he : c1 = c2
          · subst he
            rw [if_pos rfl] at hl2
            have e1 : ((s[n].toNat : Int) != (text[k].toNat : Int)) = false := by rw [hc1.out, hc2.out]; simp
            have HL := Lib.hid hl2
            clear hl2 hg hend hc1 hc2
            go_wp2_with fail
            go_quiet (fail)
            have R2 := Lib.hid ((hR.out.next (below_drewN (Below.refl _ _) nq) hR.out.lt).setAt (n + 1))
            have J2 := Lib.hid ((hj.out.trans (Just.of (below_drewN (Below.refl _ _) nq) (Nat.le_refl _))).trans (Just.set g 1 (wq.drewN nq) (.int .i64 ((n + 1 : Nat) : Int))))
            go_wp2_with fail
            go_roundw
            case rel => exact ⟨k + 1, (n + 1, false), by omega, by go_num, hlt2, R2, HL, J2⟩
            case measure => simp [intOf]; omega
          · rw [if_neg (fun e => he (by injection e with e))] at hl2
            have e1 : ((s[n].toNat : Int) != (text[k].toNat : Int)) = true := by
              rw [hc1.out, hc2.out, bne_iff_ne]
              intro e
              exact he (UInt8.toNat_inj.1 (by omega))
            have hf := Lib.hid hl2.symm
            clear hl2 hg hend hc1 hc2
            go_wp2_with fail
            go_quiet (fail)
            have R2 := Lib.hid ((hR.out.next (below_drewN (Below.refl _ _) nq) hR.out.lt).setBad true)
            have J2 := Lib.hid ((hj.out.trans (Just.of (below_drewN (Below.refl _ _) nq) (Nat.le_refl _))).trans (Just.set g 2 (wq.drewN nq) (.bool true)))
            go_wp2_with fail
            refine bodyPost_ret (v := .tuple #[]) ?_ ?_ ?_
            · simp [results, Tryz.results67, go_sem]
            · rfl
            rw [hf.out]
            exact ⟨rfl, R2.out, J2.out⟩
    · obtain rfl : k = text.size := by omega
      have hf : Hid (F = (n, b)) := by
        have := hl.out
        rw [L_drop_all] at this
        exact this.symm
      clear hl
      go_wp2_with fail
      refine bodyPost_end (v := .tuple #[]) ?_ ?_ ?_
      · simp [results, Tryz.results67, go_sem]
      · rfl
      rw [hf.out]
      exact ⟨rfl, hR.out, hj.out⟩
end Go.Proofs.YtfgaiopkclogmaaGreatDoor
