/- A cookie is set, kept, and sent: the law's own check. Contracts of the document's signs and tokens. Contracts of the document's cookie: bytes of values, values. -/
import Derived.Test.YtkenianfpfamcaaGreatDoorJarHJ
import Derived.Test.YtkenianfpfamcaaGreatDoorMn
import Derived.Test.YtkenianfpfamcaaGreatDoorMb
import Derived.Test.YtkenianfpfamcaaGreatDoorShelf
namespace Go.Proofs.YtkenianfpfamcaaGreatDoor
open Go Go.RowKit Go.Maps Go.WideMaps
set_option maxHeartbeats 8000000

def awS : ByteArray := ⟨#[97, 61, 49, 59, 32, 80, 97, 116, 104, 61, 47, 112, 59, 32, 77, 97, 120, 45, 65, 103, 101, 61, 57]⟩
def awC : SetC := ⟨[97], [49], [47, 112], [], 9, true, 0, false, false, false, 0⟩
theorem aw_parse : parseSetC 0 (L awS) = some awC := by decide +kernel
theorem aw_fail : failC (([] : List It).map It.k) awC (L ⟨#[104]⟩) (L ⟨#[47]⟩) false 5 = 0 := by decide +kernel
theorem aw_set : setJ 1 (([] : List It).map It.k) awC (L ⟨#[104]⟩) (L ⟨#[47]⟩) false 5 = [kpOf awC [104] [47] 5] := by decide +kernel
theorem aw_get1 : getJ [kpOf awC [104] [47] 5] (L ⟨#[104]⟩) (L ⟨#[47, 112, 47, 113]⟩) false 13 = [([97], [49])] := by decide +kernel
theorem aw_get2 : getJ [kpOf awC [104] [47] 5] (L ⟨#[104]⟩) (L ⟨#[47, 112, 47, 113]⟩) false 14 = [] := by decide +kernel
theorem aw_get3 : getJ [kpOf awC [104] [47] 5] (L ⟨#[103]⟩) (L ⟨#[47, 112]⟩) false 5 = [] := by decide +kernel
theorem awFit : FitC awC := ⟨by decide, by decide, by decide, by decide, by decide, by decide, by decide, by decide, by decide, by decide⟩
theorem set_below {w w' : World} {B jb mb : Nat} (h : Keeps (fun i => i = jb ∨ i = mb) w w') (h1 : B ≤ jb) (h2 : B ≤ mb) (h3 : B ≤ w.heap.size) : Below B w w' :=
  h.below (fun i hi h => by rcases h with h | h <;> omega) h3
set_option maxRecDepth 100000 in
theorem awake_any (w : World) (hE : EnvK w) : Calls Tryz.prog 11 #[] w fun e w' => e = .returned (.bool true) ∧ Below w.heap.size w w' := by
  have PSE := Lib.hid (parseset_any awS 0 w hE (by decide))
  rw [aw_parse] at PSE
  have HE := Lib.hid hE
  clear hE
  unfold setV awS awC cellsS at PSE
  go_enter Tryz.func11, Tryz.ntmps11
  go_wp2_with fail
  refine PSE.out.mono ?_; rintro e w1 ⟨rfl, hb1⟩
  have E1 := Lib.hid (HE.out.next hb1)
  have D1 := Lib.hid hb1
  clear PSE hb1
  have B2 := below_put2 (w := w1) (cs := #[.string (bs [97]), .string (bs [49]), .string (bs [47, 112]), .string (bs []), .int .i64 9, .bool true, .int .i64 0, .bool false, .bool false, .bool false, .int .i64 0]) (T := tS)
  have K2 : Hid (CellsAt (w1.alloc (.cells #[.string (bs [97]), .string (bs [49]), .string (bs [47, 112]), .string (bs []), .int .i64 9, .bool true, .int .i64 0, .bool false, .bool false, .bool false, .int .i64 0] tS)) w1.heap.size (cellsS awC)) := CellsAt.first w1 (cellsS awC) tS
  have E2 := Lib.hid (E1.out.next B2)
  have D2 := Lib.hid (D1.out.trans (B2.mono D1.out.size))
  clear B2 E1 D1
  go_wp2_with fail
  generalize w1.alloc _ = w2 at K2 E2 D2 ⊢
  refine (new_any 1 w2 (by decide) (by decide)).mono ?_; rintro e w3 ⟨rfl, hJ3, hb3⟩
  obtain ⟨mb, hmb⟩ : ∃ mb, mb = w2.heap.size := ⟨_, rfl⟩
  obtain ⟨jb, hjb⟩ : ∃ jb, jb = w2.heap.size + 1 := ⟨_, rfl⟩
  rw [← hjb] at hJ3
  rw [← hmb] at hJ3
  rw [← hjb]
  have J3 := Lib.hid hJ3
  have K3 := Lib.hid (K2.out.next hb3)
  have E3 := Lib.hid (E2.out.next hb3)
  have D3 := Lib.hid (D2.out.trans (hb3.mono D2.out.size))
  have GJ : Hid (w.heap.size ≤ jb ∧ w.heap.size ≤ mb) := by have := D2.out.size; exact ⟨by omega, by omega⟩
  have d0 := K3.out.at 0 _ rfl
  have d1 := K3.out.at 1 _ rfl
  have d2 := K3.out.at 2 _ rfl
  have d3 := K3.out.at 3 _ rfl
  have d4 := K3.out.at 4 _ rfl
  have d5 := K3.out.at 5 _ rfl
  have d6 := K3.out.at 6 _ rfl
  have d7 := K3.out.at 7 _ rfl
  have d8 := K3.out.at 8 _ rfl
  have d9 := K3.out.at 9 _ rfl
  have d10 := K3.out.at 10 _ rfl
  unfold awC at d0 d1 d2 d3 d4 d5 d6 d7 d8 d9 d10
  simp only at d0 d1 d2 d3 d4 d5 d6 d7 d8 d9 d10
  have hp2 : ((bs [47, 112]).toList == [47, 112]) = true := by rw [toList_L, L_bs]; rfl
  have ST := Lib.hid (set_any w3 jb mb 1 0 [] awC ⟨#[104]⟩ ⟨#[47]⟩ false 5 J3.out E3.out awFit (by decide) (by decide) (by decide) (by decide) (by decide))
  rw [aw_fail, aw_set] at ST
  unfold ptrV cellsS awC at ST
  simp only at ST
  clear hJ3 hb3 hmb hjb K2 E2 D2
  go_wp2_with (first | (go_at_call 26; refine ST.out.mono ?_; rintro e w4 ⟨rfl, hk4, l4, n4, hj4, hl4, hn4a, hn4b⟩))
  have D4 := Lib.hid (D3.out.trans (set_below hk4 GJ.out.1 GJ.out.2 D3.out.size))
  have J4 := Lib.hid hj4
  have L4 := Lib.hid hl4
  have hlen : l4.length = 1 := by have := congrArg List.length hl4; simpa using this
  have LN := Lib.hid hlen
  have G1 := Lib.hid (fun (wx : World) (h : JarAt wx jb mb 1 n4 l4) => get_any wx jb mb 1 n4 l4 ⟨#[104]⟩ ⟨#[47, 112, 47, 113]⟩ false 13 h (by omega) (by omega) (by decide) (by decide))
  have G2 := Lib.hid (fun (wx : World) (h : JarAt wx jb mb 1 n4 l4) => get_any wx jb mb 1 n4 l4 ⟨#[104]⟩ ⟨#[47, 112, 47, 113]⟩ false 14 h (by omega) (by omega) (by decide) (by decide))
  have G3 := Lib.hid (fun (wx : World) (h : JarAt wx jb mb 1 n4 l4) => get_any wx jb mb 1 n4 l4 ⟨#[103]⟩ ⟨#[47, 112]⟩ false 5 h (by omega) (by omega) (by decide) (by decide))
  simp only [hl4] at G1 G2 G3
  rw [show kpOf ⟨[97], [49], [47, 112], [], 9, true, 0, false, false, false, 0⟩ [104] [47] 5 = kpOf awC [104] [47] 5 from rfl] at G1 G2 G3
  rw [aw_get1] at G1
  rw [aw_get2] at G2
  rw [aw_get3] at G3
  unfold ptrV at G1 G2 G3
  clear hk4 hj4 hl4 hn4a hn4b hlen ST d0 d1 d2 d3 d4 d5 d6 d7 d8 d9 d10
  go_wp2_with fail
  refine (G1.out _ J4.out).mono ?_; rintro e w5 ⟨⟨v5, rfl, hr5⟩, hb5⟩
  have J5 := Lib.hid (J4.out.next_ hb5)
  have D5 := Lib.hid (D4.out.trans (hb5.mono D4.out.size))
  obtain ⟨so5, co5, hv5⟩ := row_slice hr5
  subst hv5
  have R5 := Lib.hid hr5
  obtain ⟨g5, rfl⟩ : ∃ g, so5 = some ⟨g, 0, none⟩ := by
    rcases hr5.2 with ⟨hn0, h0⟩ | ⟨g, cap', cur, hn0, hrest⟩
    · cases h0
    · injection hn0 with hn0 _ _
      exact ⟨g, hn0⟩
  have c51 : w5.cell? ⟨g5, 1, none⟩ = some (.string (bs [49])) := hr5.cellAt 1 (by decide)
  have h49 : ((bs [49]).toList == [49]) = true := by rw [toList_L, L_bs]; rfl
  have hl1 : ([(([97] : List UInt8), ([49] : List UInt8))]).length = 1 := rfl
  rw [hl1]
  clear hr5 hb5 G1 J4 D4 R5
  go_wp2_with fail
  refine (G2.out _ J5.out).mono ?_; rintro e w6 ⟨⟨v6, rfl, hr6⟩, hb6⟩
  have J6 := Lib.hid (J5.out.next_ hb6)
  have D6 := Lib.hid (D5.out.trans (hb6.mono D5.out.size))
  obtain ⟨so6, co6, hv6⟩ := row_slice hr6
  subst hv6
  clear hr6 hb6 G2 J5 D5
  simp only [List.length_nil]
  go_wp2_with fail
  refine (G3.out _ J6.out).mono ?_; rintro e w7 ⟨⟨v7, rfl, hr7⟩, hb7⟩
  have D7 := Lib.hid (D6.out.trans (hb7.mono D6.out.size))
  obtain ⟨so7, co7, hv7⟩ := row_slice hr7
  subst hv7
  clear hr7 hb7 G3 J6 D6
  simp only [List.length_nil]
  go_wp2_with fail
  go_ret
  exact ⟨rfl, D7.out⟩
end Go.Proofs.YtkenianfpfamcaaGreatDoor
namespace Go.Proofs.YtkenianfpfamcaaGreatDoor
open Go Go.RowKit
set_option maxHeartbeats 4000000

set_option maxRecDepth 100000 in
theorem rissign_any (c : UInt8) (w : World) : Calls Tryz.prog 84 #[.int .u8 c.toNat] w fun e w' => e = .returned (.bool (signB c)) ∧ Below w.heap.size w w' := by
  have hR0 : signB c = ((isDig c || isLet c) || signL.any (· == c)) := rfl
  rw [hR0]
  have C1 := Lib.hid (isdigit_any c w)
  have C2 := Lib.hid (isletter_any c w)
  obtain ⟨dg, hdg⟩ := name_it (isDig c)
  obtain ⟨lt, hlt1⟩ := name_it (isLet c)
  rw [hdg.out] at C1 ⊢
  rw [hlt1.out] at C2 ⊢
  clear hR0 hdg hlt1
  obtain ⟨A, hA⟩ := name_it (signL.any (· == c))
  rw [hA.out]
  cases dg with
  | true =>
    go_enter Tryz.func84, Tryz.ntmps84
    go_wp2_with fail
    refine C1.out.mono ?_; rintro e w' ⟨rfl, rfl⟩
    go_wp2_with fail
    go_ret
    exact ⟨rfl, Below.refl _ _⟩
  | false =>
    cases lt with
    | true =>
      go_enter Tryz.func84, Tryz.ntmps84
      go_wp2_with fail
      refine C1.out.mono ?_; rintro e w' ⟨rfl, rfl⟩
      go_wp2_with fail
      refine C2.out.mono ?_; rintro e w' ⟨rfl, rfl⟩
      go_wp2_with fail
      go_ret
      exact ⟨rfl, Below.refl _ _⟩
    | false =>
      rw [show ((false || false) || A) = A from rfl]
      go_enter Tryz.func84, Tryz.ntmps84
      go_wp2_with fail
      refine C1.out.mono ?_; rintro e w' ⟨rfl, rfl⟩
      go_wp2_with fail
      refine C2.out.mono ?_; rintro e w' ⟨rfl, rfl⟩
      go_wp2_with fail
      go_loopw [4] (fun j wq => ∃ m : Nat, m ≤ 15 ∧ j = .int .i64 m ∧ Hid ((signL.take m).any (· == c) = false) ∧ Below w.heap.size w wq) (fun j _ => 15 - (intOf j).toNat)
      case atStart => exact ⟨0, by omega, rfl, rfl, Below.refl _ _⟩
      case round =>
        obtain ⟨m, hm, rfl, hno, hbq⟩ := hrel
        by_cases hm2 : m < 15
        · have hlm : m < signL.length := hm2
          have hst : (signL.take (m + 1)).any (· == c) = (signL[m] == c) := by
            rw [List.take_succ_eq_append_getElem hlm, List.any_append, hno.out]; simp
          have hsz : (⟨#[33, 35, 36, 37, 38, 39, 42, 43, 45, 46, 94, 95, 96, 124, 126]⟩ : ByteArray).size = 15 := rfl
          have hq : Hid (signL[m] = (⟨#[33, 35, 36, 37, 38, 39, 42, 43, 45, 46, 94, 95, 96, 124, 126]⟩ : ByteArray)[m]'(by rw [hsz]; exact hm2)) := rfl
          have d1 : (0 : Int) ≤ (m : Int) := by omega
          have d2 : (m : Int) < 15 := by omega
          by_cases he : signL[m] = c
          · have hf : Hid (A = true) := by
              rw [← hA.out]
              exact List.any_eq_true.2 ⟨signL[m], List.getElem_mem hlm, by rw [he]; exact beq_self_eq_true _⟩
            have he2 : (((⟨#[33, 35, 36, 37, 38, 39, 42, 43, 45, 46, 94, 95, 96, 124, 126]⟩ : ByteArray)[m]'(by rw [hsz]; exact hm2)).toNat : Int) = (c.toNat : Int) := by rw [← hq.out, he]
            clear he hst hA hq
            go_wp2_with fail
            all_goals (try (exfalso; omega))
            go_ret
            exact ⟨ret_bool hf.out.symm, hbq⟩
          · have hf : Hid ((signL.take (m + 1)).any (· == c) = false) := by unfold Hid; rw [hst]; exact beq_eq_false_iff_ne.2 he
            have he2 : ¬ (((⟨#[33, 35, 36, 37, 38, 39, 42, 43, 45, 46, 94, 95, 96, 124, 126]⟩ : ByteArray)[m]'(by rw [hsz]; exact hm2)).toNat : Int) = (c.toNat : Int) := by
              rw [← hq.out]; intro e; exact he (UInt8.toNat_inj.1 (by omega))
            clear he hst hA hq
            go_wp2_with fail
            all_goals (try (exfalso; omega))
            go_roundw
            case rel => exact ⟨m + 1, by omega, by go_num, hf, hbq⟩
            case measure => simp [intOf]; omega
        · obtain rfl : m = 15 := by omega
          have hf : Hid (A = false) := by rw [← hA.out]; exact hno.out
          clear hA hno
          go_wp2_with fail
          go_ret
          exact ⟨ret_bool hf.out.symm, hbq⟩
set_option maxRecDepth 100000 in
theorem ristoken_any (s : ByteArray) (w : World) (hs : s.size ≤ 1073741824) : Calls Tryz.prog 40 #[.string s] w fun e w' => e = .returned (.bool ((L s).all signB && decide (L s ≠ []))) ∧ Below w.heap.size w w' := by
  obtain ⟨A, hA⟩ := name_it ((L s).all signB)
  rw [hA.out]
  go_enter Tryz.func40, Tryz.ntmps40
  go_wp2_with fail
  go_loopw [3] (fun i wr => ∃ k : Nat, k ≤ s.size ∧ i = .int .i64 k ∧ Hid (((L s).drop k).all signB = A) ∧ Hid (Below w.heap.size w wr)) (fun i _ => s.size - (intOf i).toNat)
  case atStart => exact ⟨0, Nat.zero_le _, rfl, hA, Below.refl _ _⟩
  clear hA
  case round =>
    obtain ⟨k, hk, rfl, hr, hbr⟩ := hrel
    obtain ⟨wq, hwq⟩ : ∃ wq, wq = wr := ⟨wr, rfl⟩
    subst hwq
    by_cases hlt : k < s.size
    · have hr2 := hr.out
      rw [L_drop hlt, List.all_cons] at hr2
      have HM := Lib.hid (rissign_any s[k] wq)
      cases hb : signB s[k] with
      | true =>
        rw [hb] at hr2 HM
        have HR : Hid (((L s).drop (k + 1)).all signB = A) := by unfold Hid; rw [← hr2]; rfl
        clear hr hr2 hb
        go_wp2_with fail
        refine HM.out.mono ?_; rintro e wv ⟨rfl, hbv⟩
        go_wp2_with fail
        go_roundw
        case rel => exact ⟨k + 1, by omega, by go_num, HR, hbr.out.trans (hbv.mono hbr.out.size)⟩
        case measure => simp [intOf]; omega
      | false =>
        rw [hb] at hr2 HM
        have hf : Hid (A = false) := by rw [← hr2]; rfl
        clear hr hr2 hb
        go_wp2_with fail
        refine HM.out.mono ?_; rintro e wv ⟨rfl, hbv⟩
        go_wp2_with fail
        go_ret
        exact ⟨ret_bool (by rw [hf.out, Bool.false_and]), hbr.out.trans (hbv.mono hbr.out.size)⟩
    · obtain rfl : k = s.size := by omega
      rw [L_drop_all] at hr
      have hf : Hid (A = true) := hr.out.symm
      clear hr
      go_wp2_with fail
      go_ret
      exact ⟨ret_bool (by rw [hf.out, Bool.true_and]; (try simp only []); simp; exact str_empty s), hbr.out⟩
end Go.Proofs.YtkenianfpfamcaaGreatDoor
namespace Go.Proofs.YtkenianfpfamcaaGreatDoor
open Go Go.RowKit
set_option maxHeartbeats 4000000

theorem inside_any (c : UInt8) (w : World) : Calls Tryz.prog 85 #[.int .u8 c.toNat] w fun e w' => e = .returned (.bool (inC c)) ∧ w = w' := by
  have hi := inC_iff c
  obtain ⟨R, hR⟩ := name_it (inC c)
  rw [hR.out] at hi ⊢
  have HI := Lib.hid hi
  clear hi hR
  go_enter Tryz.func85, Tryz.ntmps85
  go_wp2
  all_goals (try (exfalso; omega))
  all_goals go_ret
  all_goals exact ⟨ret_bool (by rw [Bool.eq_iff_iff, HI.out]; (try simp only [] at *); simp; omega), rfl⟩
set_option maxRecDepth 100000 in
theorem risvalue_any (s : ByteArray) (w : World) (hs : s.size ≤ maxLen) : Calls Tryz.prog 41 #[.string s] w fun e w' => e = .returned (.bool (valC (L s))) ∧ w = w' := by
  unfold maxLen at hs
  obtain ⟨R, hR⟩ := name_it (valC (L s))
  rw [hR.out]
  by_cases hqq : ∃ h1 : 1 < s.size, s[0].toNat = 34 ∧ s[s.size - 1].toNat = 34
  · obtain ⟨h1, q0, q1⟩ := hqq
    have HV : Hid ((L (s.extract 1 (s.size - 1))).all inC = R) := by
      rw [← hR.out]; unfold Hid valC unqC
      rw [if_pos ((quoted_iff s h1).2 ⟨q0, q1⟩), L_length, extract_bs, L_bs]
    have hz : (s.extract 1 (s.size - 1)).size ≤ 9223372036854775807 := by rw [extract_bs, size_bs, List.length_drop, List.length_take, L_length]; omega
    clear hR
    go_enter Tryz.func41, Tryz.ntmps41
    go_wp2_with fail
    all_goals (try (exfalso; omega))
    obtain ⟨T, hT⟩ := name_it (s.extract 1 (s.size - 1))
    rw [hT.out] at hz HV
    rw [hT.out]
    clear hT q0 q1
    go_loop [3] (fun i => ∃ k : Nat, k ≤ T.size ∧ i = .int .i64 k ∧ Hid (((L T).drop k).all inC = R)) (fun i => T.size - (intOf i).toNat)
    case atStart => exact ⟨0, Nat.zero_le _, rfl, HV⟩
    case round =>
      obtain ⟨k, hk, rfl, hr⟩ := hrel
      by_cases hlt : k < T.size
      · cases hb : inC T[k]
        all_goals
          have hr2 := hr.out
          rw [L_drop hlt, List.all_cons, hb] at hr2
          have HR := Lib.hid hr2
          have HK := Lib.hid (inside_any T[k] w)
          rw [hb] at HK
          clear hr2 hr
          go_wp2_with (go_at_call 85; refine HK.out.mono ?_; rintro e w' ⟨rfl, rfl⟩)
        · go_ret
          exact ⟨ret_bool (by rw [← HR.out]; rfl), rfl⟩
        · go_round
          case rel => exact ⟨k + 1, by omega, by go_num, Lib.hid (by have h := HR.out; simpa using h)⟩
          case measure => simp [intOf]; omega
      · obtain rfl : k = T.size := by omega
        rw [L_drop_all] at hr
        go_wp2_with fail
        go_ret
        exact ⟨ret_bool (by rw [← hr.out]; rfl), rfl⟩
  · have HV : Hid ((L s).all inC = R) := by
      rw [← hR.out]; unfold Hid valC unqC
      rw [if_neg]
      intro hq
      have h1 : 1 < s.size := by
        unfold quotedC at hq
        rw [Bool.and_eq_true, decide_eq_true_eq, L_length] at hq
        exact hq.1
      exact hqq ⟨h1, (quoted_iff s h1).1 hq⟩
    by_cases g1 : s.size < 2
    · have g2 : (s.size : Int) < 2 := by omega
      clear hR hqq
      go_enter Tryz.func41, Tryz.ntmps41
      go_wp2_with fail
      all_goals (try (exfalso; omega))
      go_loop [3] (fun i => ∃ k : Nat, k ≤ s.size ∧ i = .int .i64 k ∧ Hid (((L s).drop k).all inC = R)) (fun i => s.size - (intOf i).toNat)
      case atStart => exact ⟨0, Nat.zero_le _, rfl, HV⟩
      case round =>
        obtain ⟨k, hk, rfl, hr⟩ := hrel
        by_cases hlt : k < s.size
        · cases hb : inC s[k]
          all_goals
            have hr2 := hr.out
            rw [L_drop hlt, List.all_cons, hb] at hr2
            have HR := Lib.hid hr2
            have HK := Lib.hid (inside_any s[k] w)
            rw [hb] at HK
            clear hr2 hr
            go_wp2_with (go_at_call 85; refine HK.out.mono ?_; rintro e w' ⟨rfl, rfl⟩)
          · go_ret
            exact ⟨ret_bool (by rw [← HR.out]; rfl), rfl⟩
          · go_round
            case rel => exact ⟨k + 1, by omega, by go_num, Lib.hid (by have h := HR.out; simpa using h)⟩
            case measure => simp [intOf]; omega
        · obtain rfl : k = s.size := by omega
          rw [L_drop_all] at hr
          go_wp2_with fail
          go_ret
          exact ⟨ret_bool (by rw [← hr.out]; rfl), rfl⟩
    · have g2 : ¬ (s.size : Int) < 2 := by omega
      by_cases g3 : (s[0]'(by omega)).toNat = 34
      · have g4 : ¬ ((s[s.size - 1]'(by omega)).toNat : Int) = 34 := fun e => hqq ⟨by omega, g3, by omega⟩
        have g5 : (((s[s.size - 1]'(by omega)).toNat : Int) == 34) = false := by rw [beq_eq_false_iff_ne]; exact g4
        have g6 : (((s[0]'(by omega)).toNat : Int) == 34) = true := by rw [beq_iff_eq]; omega
        clear hR hqq
        go_enter Tryz.func41, Tryz.ntmps41
        go_wp2_with fail
        all_goals (try (exfalso; omega))
        go_loop [3] (fun i => ∃ k : Nat, k ≤ s.size ∧ i = .int .i64 k ∧ Hid (((L s).drop k).all inC = R)) (fun i => s.size - (intOf i).toNat)
        case atStart => exact ⟨0, Nat.zero_le _, rfl, HV⟩
        case round =>
          obtain ⟨k, hk, rfl, hr⟩ := hrel
          by_cases hlt : k < s.size
          · cases hb : inC s[k]
            all_goals
              have hr2 := hr.out
              rw [L_drop hlt, List.all_cons, hb] at hr2
              have HR := Lib.hid hr2
              have HK := Lib.hid (inside_any s[k] w)
              rw [hb] at HK
              clear hr2 hr
              go_wp2_with (go_at_call 85; refine HK.out.mono ?_; rintro e w' ⟨rfl, rfl⟩)
            · go_ret
              exact ⟨ret_bool (by rw [← HR.out]; rfl), rfl⟩
            · go_round
              case rel => exact ⟨k + 1, by omega, by go_num, Lib.hid (by have h := HR.out; simpa using h)⟩
              case measure => simp [intOf]; omega
          · obtain rfl : k = s.size := by omega
            rw [L_drop_all] at hr
            go_wp2_with fail
            go_ret
            exact ⟨ret_bool (by rw [← hr.out]; rfl), rfl⟩
      · have g4 : ¬ ((s[0]'(by omega)).toNat : Int) = 34 := fun e => g3 (by omega)
        have g5 : (((s[0]'(by omega)).toNat : Int) == 34) = false := by rw [beq_eq_false_iff_ne]; exact g4
        clear hR hqq
        go_enter Tryz.func41, Tryz.ntmps41
        go_wp2_with fail
        all_goals (try (exfalso; omega))
        go_loop [3] (fun i => ∃ k : Nat, k ≤ s.size ∧ i = .int .i64 k ∧ Hid (((L s).drop k).all inC = R)) (fun i => s.size - (intOf i).toNat)
        case atStart => exact ⟨0, Nat.zero_le _, rfl, HV⟩
        case round =>
          obtain ⟨k, hk, rfl, hr⟩ := hrel
          by_cases hlt : k < s.size
          · cases hb : inC s[k]
            all_goals
              have hr2 := hr.out
              rw [L_drop hlt, List.all_cons, hb] at hr2
              have HR := Lib.hid hr2
              have HK := Lib.hid (inside_any s[k] w)
              rw [hb] at HK
              clear hr2 hr
              go_wp2_with (go_at_call 85; refine HK.out.mono ?_; rintro e w' ⟨rfl, rfl⟩)
            · go_ret
              exact ⟨ret_bool (by rw [← HR.out]; rfl), rfl⟩
            · go_round
              case rel => exact ⟨k + 1, by omega, by go_num, Lib.hid (by have h := HR.out; simpa using h)⟩
              case measure => simp [intOf]; omega
          · obtain rfl : k = s.size := by omega
            rw [L_drop_all] at hr
            go_wp2_with fail
            go_ret
            exact ⟨ret_bool (by rw [← hr.out]; rfl), rfl⟩
end Go.Proofs.YtkenianfpfamcaaGreatDoor
