/- Contracts of ledger: are all bytes of a text of a kind, and is it no longer than so many. Contract of ledger: is an entry right. -/
import Derived.Test.YtfgaiopkclogmaaGreatDoorMc
namespace Go.Proofs.YtfgaiopkclogmaaGreatDoor
open Go Go.RowKit
set_option maxHeartbeats 4000000

set_option maxRecDepth 100000 in
theorem allname_any (s : ByteArray) (w : World) (hs : s.size ≤ 1073741824) :
    Calls Tryz.prog 53 #[.string s, .int .i64 64, .func (.func 54) #[] #[]] w fun e w' => e = .returned (.bool ((L s).all nameB && decide (1 ≤ (L s).length ∧ (L s).length ≤ 64))) ∧ Below w.heap.size w w' := by
  rw [L_length]
  obtain ⟨A, hA⟩ := name_it ((L s).all nameB)
  rw [hA.out]
  go_enter Tryz.func53, Tryz.ntmps53
  go_wp2_with fail
  go_loopw [7, 10] (fun _ i wr => ∃ k : Nat, k ≤ s.size ∧ i = .int .i64 k ∧ Hid (((L s).drop k).all nameB = A) ∧ Hid (Below w.heap.size w wr)) (fun _ i _ => s.size - (intOf i).toNat)
  case atStart => exact ⟨0, Nat.zero_le _, rfl, hA, Below.refl _ _⟩
  clear hA
  case round =>
    obtain ⟨k, hk, rfl, hr, hbr⟩ := hrel
    obtain ⟨wq, hwq⟩ : ∃ wq, wq = wr := ⟨wr, rfl⟩
    subst hwq
    by_cases hlt : k < s.size
    · have hr2 := hr.out
      rw [L_drop hlt, List.all_cons] at hr2
      have HM := Lib.hid (fun wx (_ : True) => isname_any s[k] wx)
      cases hb : nameB s[k] with
      | true =>
        rw [hb] at hr2 HM
        have HR : Hid (((L s).drop (k + 1)).all nameB = A) := by unfold Hid; rw [← hr2]; rfl
        clear hr hr2 hb
        go_wp2_with fail
        refine (HM.out _ trivial).mono ?_; rintro e w' ⟨rfl, rfl⟩
        go_wp2_with fail
        go_roundw
        case rel => exact ⟨k + 1, by omega, by go_num, HR, hbr.out⟩
        case measure => simp [intOf]; omega
      | false =>
        rw [hb] at hr2 HM
        have hf : Hid (A = false) := by rw [← hr2]; rfl
        clear hr hr2 hb
        go_wp2_with fail
        refine (HM.out _ trivial).mono ?_; rintro e w' ⟨rfl, rfl⟩
        go_wp2_with fail
        go_ret
        exact ⟨ret_bool (by rw [hf.out, Bool.false_and]), hbr.out⟩
    · obtain rfl : k = s.size := by omega
      rw [L_drop_all] at hr
      have hf : Hid (A = true) := hr.out.symm
      clear hr
      by_cases h1 : 1 ≤ s.size
      · by_cases h2 : s.size ≤ 64
        · have hz : Hid ((A && decide (1 ≤ s.size ∧ s.size ≤ 64)) = true) := by unfold Hid; rw [hf.out, decide_eq_true ⟨h1, h2⟩]; rfl
          go_wp2_with fail
          all_goals (try (exfalso; omega))
          all_goals go_ret
          all_goals exact ⟨ret_bool (by first | rfl | (rw [hz.out]; first | rfl | (simp; omega))), hbr.out⟩
        · have hz : Hid ((A && decide (1 ≤ s.size ∧ s.size ≤ 64)) = false) := by unfold Hid; rw [hf.out, decide_eq_false (fun h => h2 h.2)]; rfl
          go_wp2_with fail
          all_goals (try (exfalso; omega))
          all_goals go_ret
          all_goals exact ⟨ret_bool (by first | rfl | (rw [hz.out]; first | rfl | (simp; omega))), hbr.out⟩
      · have hz : Hid ((A && decide (1 ≤ s.size ∧ s.size ≤ 64)) = false) := by unfold Hid; rw [hf.out, decide_eq_false (fun h => h1 h.1)]; rfl
        go_wp2_with fail
        all_goals (try (exfalso; omega))
        all_goals go_ret
        all_goals exact ⟨ret_bool (by first | rfl | (rw [hz.out]; first | rfl | (simp; omega))), hbr.out⟩

set_option maxRecDepth 100000 in
theorem allsign_any (s : ByteArray) (w : World) (hE : EnvT w) (hs : s.size ≤ 1073741824) :
    Calls Tryz.prog 53 #[.string s, .int .i64 24, .func (.func 55) #[] #[]] w fun e w' => e = .returned (.bool ((L s).all signB && decide (1 ≤ (L s).length ∧ (L s).length ≤ 24))) ∧ Below w.heap.size w w' := by
  have HE := Lib.hid hE; clear hE
  rw [L_length]
  obtain ⟨A, hA⟩ := name_it ((L s).all signB)
  rw [hA.out]
  go_enter Tryz.func53, Tryz.ntmps53
  go_wp2_with fail
  go_loopw [7, 10] (fun _ i wr => ∃ k : Nat, k ≤ s.size ∧ i = .int .i64 k ∧ Hid (((L s).drop k).all signB = A) ∧ Hid (Below w.heap.size w wr)) (fun _ i _ => s.size - (intOf i).toNat)
  case atStart => exact ⟨0, Nat.zero_le _, rfl, hA, Below.refl _ _⟩
  clear hA
  case round =>
    obtain ⟨k, hk, rfl, hr, hbr⟩ := hrel
    obtain ⟨wq, hwq⟩ : ∃ wq, wq = wr := ⟨wr, rfl⟩
    subst hwq
    by_cases hlt : k < s.size
    · have hr2 := hr.out
      rw [L_drop hlt, List.all_cons] at hr2
      have HM := Lib.hid (fun wx hx => issign_any s[k] wx hx)
      cases hb : signB s[k] with
      | true =>
        rw [hb] at hr2 HM
        have HR : Hid (((L s).drop (k + 1)).all signB = A) := by unfold Hid; rw [← hr2]; rfl
        clear hr hr2 hb
        go_wp2_with fail
        refine (HM.out _ (HE.out.next hbr.out)).mono ?_; rintro e wv ⟨rfl, hbv⟩
        go_wp2_with fail
        go_roundw
        case rel => exact ⟨k + 1, by omega, by go_num, HR, (hbr.out.trans (hbv.mono hbr.out.size))⟩
        case measure => simp [intOf]; omega
      | false =>
        rw [hb] at hr2 HM
        have hf : Hid (A = false) := by rw [← hr2]; rfl
        clear hr hr2 hb
        go_wp2_with fail
        refine (HM.out _ (HE.out.next hbr.out)).mono ?_; rintro e wv ⟨rfl, hbv⟩
        go_wp2_with fail
        go_ret
        exact ⟨ret_bool (by rw [hf.out, Bool.false_and]), (hbr.out.trans (hbv.mono hbr.out.size))⟩
    · obtain rfl : k = s.size := by omega
      rw [L_drop_all] at hr
      have hf : Hid (A = true) := hr.out.symm
      clear hr
      by_cases h1 : 1 ≤ s.size
      · by_cases h2 : s.size ≤ 24
        · have hz : Hid ((A && decide (1 ≤ s.size ∧ s.size ≤ 24)) = true) := by unfold Hid; rw [hf.out, decide_eq_true ⟨h1, h2⟩]; rfl
          go_wp2_with fail
          all_goals (try (exfalso; omega))
          all_goals go_ret
          all_goals exact ⟨ret_bool (by first | rfl | (rw [hz.out]; first | rfl | (simp; omega))), hbr.out⟩
        · have hz : Hid ((A && decide (1 ≤ s.size ∧ s.size ≤ 24)) = false) := by unfold Hid; rw [hf.out, decide_eq_false (fun h => h2 h.2)]; rfl
          go_wp2_with fail
          all_goals (try (exfalso; omega))
          all_goals go_ret
          all_goals exact ⟨ret_bool (by first | rfl | (rw [hz.out]; first | rfl | (simp; omega))), hbr.out⟩
      · have hz : Hid ((A && decide (1 ≤ s.size ∧ s.size ≤ 24)) = false) := by unfold Hid; rw [hf.out, decide_eq_false (fun h => h1 h.1)]; rfl
        go_wp2_with fail
        all_goals (try (exfalso; omega))
        all_goals go_ret
        all_goals exact ⟨ret_bool (by first | rfl | (rw [hz.out]; first | rfl | (simp; omega))), hbr.out⟩

set_option maxRecDepth 100000 in
theorem alltgt_any (s : ByteArray) (w : World) (hs : s.size ≤ 1073741824) :
    Calls Tryz.prog 53 #[.string s, .int .i64 65536, .func (.func 56) #[] #[]] w fun e w' => e = .returned (.bool ((L s).all tgtB && decide (1 ≤ (L s).length ∧ (L s).length ≤ 65536))) ∧ Below w.heap.size w w' := by
  rw [L_length]
  obtain ⟨A, hA⟩ := name_it ((L s).all tgtB)
  rw [hA.out]
  go_enter Tryz.func53, Tryz.ntmps53
  go_wp2_with fail
  go_loopw [7, 10] (fun _ i wr => ∃ k : Nat, k ≤ s.size ∧ i = .int .i64 k ∧ Hid (((L s).drop k).all tgtB = A) ∧ Hid (Below w.heap.size w wr)) (fun _ i _ => s.size - (intOf i).toNat)
  case atStart => exact ⟨0, Nat.zero_le _, rfl, hA, Below.refl _ _⟩
  clear hA
  case round =>
    obtain ⟨k, hk, rfl, hr, hbr⟩ := hrel
    obtain ⟨wq, hwq⟩ : ∃ wq, wq = wr := ⟨wr, rfl⟩
    subst hwq
    by_cases hlt : k < s.size
    · have hr2 := hr.out
      rw [L_drop hlt, List.all_cons] at hr2
      have HM := Lib.hid (fun wx (_ : True) => istarget_any s[k] wx)
      cases hb : tgtB s[k] with
      | true =>
        rw [hb] at hr2 HM
        have HR : Hid (((L s).drop (k + 1)).all tgtB = A) := by unfold Hid; rw [← hr2]; rfl
        clear hr hr2 hb
        go_wp2_with fail
        refine (HM.out _ trivial).mono ?_; rintro e w' ⟨rfl, rfl⟩
        go_wp2_with fail
        go_roundw
        case rel => exact ⟨k + 1, by omega, by go_num, HR, hbr.out⟩
        case measure => simp [intOf]; omega
      | false =>
        rw [hb] at hr2 HM
        have hf : Hid (A = false) := by rw [← hr2]; rfl
        clear hr hr2 hb
        go_wp2_with fail
        refine (HM.out _ trivial).mono ?_; rintro e w' ⟨rfl, rfl⟩
        go_wp2_with fail
        go_ret
        exact ⟨ret_bool (by rw [hf.out, Bool.false_and]), hbr.out⟩
    · obtain rfl : k = s.size := by omega
      rw [L_drop_all] at hr
      have hf : Hid (A = true) := hr.out.symm
      clear hr
      by_cases h1 : 1 ≤ s.size
      · by_cases h2 : s.size ≤ 65536
        · have hz : Hid ((A && decide (1 ≤ s.size ∧ s.size ≤ 65536)) = true) := by unfold Hid; rw [hf.out, decide_eq_true ⟨h1, h2⟩]; rfl
          go_wp2_with fail
          all_goals (try (exfalso; omega))
          all_goals go_ret
          all_goals exact ⟨ret_bool (by first | rfl | (rw [hz.out]; first | rfl | (simp; omega))), hbr.out⟩
        · have hz : Hid ((A && decide (1 ≤ s.size ∧ s.size ≤ 65536)) = false) := by unfold Hid; rw [hf.out, decide_eq_false (fun h => h2 h.2)]; rfl
          go_wp2_with fail
          all_goals (try (exfalso; omega))
          all_goals go_ret
          all_goals exact ⟨ret_bool (by first | rfl | (rw [hz.out]; first | rfl | (simp; omega))), hbr.out⟩
      · have hz : Hid ((A && decide (1 ≤ s.size ∧ s.size ≤ 65536)) = false) := by unfold Hid; rw [hf.out, decide_eq_false (fun h => h1 h.1)]; rfl
        go_wp2_with fail
        all_goals (try (exfalso; omega))
        all_goals go_ret
        all_goals exact ⟨ret_bool (by first | rfl | (rw [hz.out]; first | rfl | (simp; omega))), hbr.out⟩

end Go.Proofs.YtfgaiopkclogmaaGreatDoor
namespace Go.Proofs.YtfgaiopkclogmaaGreatDoor
open Go Go.RowKit
set_option maxHeartbeats 4000000

def encE (e : En) : Value := .agg #[.string (bs e.name), .int .i64 e.conn, .int .i64 e.numb, .string (bs e.meth), .string (bs e.tgt), .int .i64 e.stat, .int .i64 e.byts, .int .i64 e.tick]
def numsE (e : En) : Bool := decide (0 ≤ e.conn ∧ 0 ≤ e.numb ∧ 0 ≤ e.byts ∧ 0 ≤ e.tick ∧ 100 ≤ e.stat ∧ e.stat ≤ 599)
set_option maxRecDepth 100000 in
theorem right_any (e : En) (w : World) (hE : EnvT w) (h1 : e.name.length ≤ 1073741824) (h2 : e.meth.length ≤ 1073741824) (h3 : e.tgt.length ≤ 1073741824) :
    Calls Tryz.prog 30 #[encE e] w fun x w' => x = .returned (.bool (rightE e)) ∧ Below w.heap.size w w' := by
  have HE := Lib.hid hE; clear hE
  have n1 := fun wx => allname_any (bs e.name) wx (by rw [size_bs]; exact h1)
  have n2 := fun wx hx => allsign_any (bs e.meth) wx hx (by rw [size_bs]; exact h2)
  have n3 := fun wx => alltgt_any (bs e.tgt) wx (by rw [size_bs]; exact h3)
  rw [L_bs] at n1 n2 n3
  have N1 := Lib.hid n1
  have N2 := Lib.hid n2
  have N3 := Lib.hid n3
  clear n1 n2 n3
  have hr : rightE e = (numsE e && ((e.name.all nameB && decide (1 ≤ e.name.length ∧ e.name.length ≤ 64)) && ((e.meth.all signB && decide (1 ≤ e.meth.length ∧ e.meth.length ≤ 24)) && (e.tgt.all tgtB && decide (1 ≤ e.tgt.length ∧ e.tgt.length ≤ 65536))))) := rfl
  rw [hr]
  obtain ⟨b1, hb1⟩ := name_it (e.name.all nameB && decide (1 ≤ e.name.length ∧ e.name.length ≤ 64))
  obtain ⟨b2, hb2⟩ := name_it (e.meth.all signB && decide (1 ≤ e.meth.length ∧ e.meth.length ≤ 24))
  obtain ⟨b3, hb3⟩ := name_it (e.tgt.all tgtB && decide (1 ≤ e.tgt.length ∧ e.tgt.length ≤ 65536))
  rw [hb1.out] at N1 ⊢
  rw [hb2.out] at N2 ⊢
  rw [hb3.out] at N3 ⊢
  clear hb1 hb2 hb3 hr
  unfold encE numsE
  obtain ⟨nm, hnm⟩ := name_it (bs e.name)
  obtain ⟨mt, hmt⟩ := name_it (bs e.meth)
  obtain ⟨tg, htg⟩ := name_it (bs e.tgt)
  rw [hnm.out] at N1 ⊢
  rw [hmt.out] at N2 ⊢
  rw [htg.out] at N3 ⊢
  clear hnm hmt htg h1 h2 h3
  obtain ⟨l1, l2, l3, x1, x2, x3, x4, x5⟩ := e
  simp only []
  by_cases hn : 0 ≤ x1 ∧ 0 ≤ x2 ∧ 0 ≤ x5 ∧ 0 ≤ x3 ∧ 100 ≤ x4 ∧ x4 ≤ 599
  · rw [decide_eq_true hn, Bool.true_and]
    obtain ⟨n1, n2, n3, n4, n5, n6⟩ := hn
    have hsz : (w.alloc (.cells #[.string nm, .int .i64 x1, .int .i64 x2, .string mt, .string tg, .int .i64 x4, .int .i64 x5, .int .i64 x3] 32)).heap.size = w.heap.size + 1 := Array.size_push ..
    have DB := Lib.hid (((Below.refl w.heap.size w).alloc (Nat.le_refl _) (.cells #[.string nm, .int .i64 x1, .int .i64 x2, .string mt, .string tg, .int .i64 x4, .int .i64 x5, .int .i64 x3] 32)).alloc (by rw [hsz]; omega) (.cells #[.int .i64 x1, .int .i64 x2, .string mt, .string tg, .int .i64 x4, .int .i64 x5, .int .i64 x3] 30))
    have m2 := World.cell?_alloc_mark (w.alloc (.cells #[.string nm, .int .i64 x1, .int .i64 x2, .string mt, .string tg, .int .i64 x4, .int .i64 x5, .int .i64 x3] 32)) #[.int .i64 x1, .int .i64 x2, .string mt, .string tg, .int .i64 x4, .int .i64 x5, .int .i64 x3] 30 (0, 0) 2
    have m3 := World.cell?_alloc_mark (w.alloc (.cells #[.string nm, .int .i64 x1, .int .i64 x2, .string mt, .string tg, .int .i64 x4, .int .i64 x5, .int .i64 x3] 32)) #[.int .i64 x1, .int .i64 x2, .string mt, .string tg, .int .i64 x4, .int .i64 x5, .int .i64 x3] 30 (0, 0) 3
    have hlt : w.heap.size + 1 < ((w.alloc (.cells #[.string nm, .int .i64 x1, .int .i64 x2, .string mt, .string tg, .int .i64 x4, .int .i64 x5, .int .i64 x3] 32)).alloc (.cells #[.int .i64 x1, .int .i64 x2, .string mt, .string tg, .int .i64 x4, .int .i64 x5, .int .i64 x3] 30)).heap.size := by
      have : ((w.alloc (.cells #[.string nm, .int .i64 x1, .int .i64 x2, .string mt, .string tg, .int .i64 x4, .int .i64 x5, .int .i64 x3] 32)).alloc (.cells #[.int .i64 x1, .int .i64 x2, .string mt, .string tg, .int .i64 x4, .int .i64 x5, .int .i64 x3] 30)).heap.size = (w.alloc (.cells #[.string nm, .int .i64 x1, .int .i64 x2, .string mt, .string tg, .int .i64 x4, .int .i64 x5, .int .i64 x3] 32)).heap.size + 1 := Array.size_push ..
      omega
    rw [hsz] at m2 m3
    have M2 : Hid (((w.alloc (.cells #[.string nm, .int .i64 x1, .int .i64 x2, .string mt, .string tg, .int .i64 x4, .int .i64 x5, .int .i64 x3] 32)).alloc (.cells #[.int .i64 x1, .int .i64 x2, .string mt, .string tg, .int .i64 x4, .int .i64 x5, .int .i64 x3] 30)).cell? ⟨w.heap.size + 1, 2, none⟩ = some (.string mt)) := m2
    have M3 : Hid (((w.alloc (.cells #[.string nm, .int .i64 x1, .int .i64 x2, .string mt, .string tg, .int .i64 x4, .int .i64 x5, .int .i64 x3] 32)).alloc (.cells #[.int .i64 x1, .int .i64 x2, .string mt, .string tg, .int .i64 x4, .int .i64 x5, .int .i64 x3] 30)).cell? ⟨w.heap.size + 1, 3, none⟩ = some (.string tg)) := m3
    have HLT := Lib.hid hlt
    clear m2 m3 hlt hsz
    go_enter Tryz.func30, Tryz.ntmps30
    go_wp2_with fail
    all_goals (try (exfalso; omega))
    refine (N1.out _).mono ?_; rintro x wa ⟨rfl, ba⟩
    have da := DB.out.trans (ba.mono DB.out.size)
    have M2a := (ba.cell (p := ⟨w.heap.size + 1, 2, none⟩) HLT.out).trans M2.out
    have M3a := Lib.hid ((ba.cell (p := ⟨w.heap.size + 1, 3, none⟩) HLT.out).trans M3.out)
    have lta := Lib.hid (Nat.lt_of_lt_of_le HLT.out ba.size)
    have HEa := Lib.hid (HE.out.next da)
    clear ba M2 M3 HLT DB
    cases b1 with
    | false =>
      go_wp2_with fail
      go_ret
      exact ⟨rfl, da⟩
    | true =>
      go_wp2_with fail
      refine (N2.out _ HEa.out).mono ?_; rintro x wb ⟨rfl, bb⟩
      have db := da.trans (bb.mono da.size)
      have M3b := (bb.cell (p := ⟨w.heap.size + 1, 3, none⟩) lta.out).trans M3a.out
      clear bb M2a M3a
      cases b2 with
      | false =>
        go_wp2_with fail
        go_ret
        exact ⟨rfl, db⟩
      | true =>
        go_wp2_with fail
        refine (N3.out _).mono ?_; rintro x wc ⟨rfl, bc⟩
        have dc := db.trans (bc.mono db.size)
        go_wp2_with fail
        go_ret
        cases b3 <;> exact ⟨rfl, dc⟩
  · rw [decide_eq_false hn, Bool.false_and]
    have hn2 : x1 < 0 ∨ (0 ≤ x1 ∧ x2 < 0) ∨ (0 ≤ x1 ∧ 0 ≤ x2 ∧ x5 < 0) ∨ (0 ≤ x1 ∧ 0 ≤ x2 ∧ 0 ≤ x5 ∧ x3 < 0) ∨ (0 ≤ x1 ∧ 0 ≤ x2 ∧ 0 ≤ x5 ∧ 0 ≤ x3 ∧ x4 < 100) ∨ (0 ≤ x1 ∧ 0 ≤ x2 ∧ 0 ≤ x5 ∧ 0 ≤ x3 ∧ 100 ≤ x4 ∧ 599 < x4) := by omega
    have hsz : (w.alloc (.cells #[.string nm, .int .i64 x1, .int .i64 x2, .string mt, .string tg, .int .i64 x4, .int .i64 x5, .int .i64 x3] 32)).heap.size = w.heap.size + 1 := Array.size_push ..
    have DB := Lib.hid (((Below.refl w.heap.size w).alloc (Nat.le_refl _) (.cells #[.string nm, .int .i64 x1, .int .i64 x2, .string mt, .string tg, .int .i64 x4, .int .i64 x5, .int .i64 x3] 32)).alloc (by rw [hsz]; omega) (.cells #[.int .i64 x1, .int .i64 x2, .string mt, .string tg, .int .i64 x4, .int .i64 x5, .int .i64 x3] 30))
    clear hn hsz N1 N2 N3
    rcases hn2 with h | ⟨h1, h⟩ | ⟨h1, h2, h⟩ | ⟨h1, h2, h3, h⟩ | ⟨h1, h2, h3, h4, h⟩ | ⟨h1, h2, h3, h4, h5, h⟩
    all_goals
      go_enter Tryz.func30, Tryz.ntmps30
      go_wp2_with fail
      all_goals (try (exfalso; omega))
      go_ret
      exact ⟨rfl, DB.out⟩
end Go.Proofs.YtfgaiopkclogmaaGreatDoor
