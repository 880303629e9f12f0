/- Contracts of a line's value: the document. -/
import Derived.Test.YtnodboggemggmaaDoorLineA
namespace Go.Proofs.YtnodboggemggmaaDoor
open Go Go.RowKit
set_option maxHeartbeats 2000000

def startsB (l t : List UInt8) : Bool := decide (l.take t.length = t)
def cutB (l t : List UInt8) : Bool := decide (l.length < t.length ∧ t.take l.length = l)
set_option maxRecDepth 100000 in
theorem starts_any (s t : ByteArray) (n : Nat) (w : World) (hs : s.size ≤ 4000000000) (ht : t.size ≤ 4000000000) (hn : n ≤ s.size) :
    Calls Tryd.prog 69 #[.string s, .int .i64 n, .string t] w fun e w' => e = .returned (.bool (startsB ((L s).drop n) (L t))) ∧ Below w.heap.size w w' := by
  obtain ⟨R, hR⟩ := name_it (startsB ((L s).drop n) (L t))
  rw [hR.out]
  by_cases hlt : n + t.size ≤ s.size
  · have hcmp : ((s.extract n (n + t.size)).toList == t.toList) = R := by
      rw [str_eq, extract_bs, L_bs, ← hR.out]
      unfold startsB
      rw [L_length, List.drop_take]
      congr 2
      rw [Nat.add_sub_cancel_left]
    clear hR
    go_enter Tryd.func69, Tryd.ntmps69
    go_wp2_with fail
    all_goals (try (exfalso; omega))
    all_goals go_ret
    all_goals exact ⟨by first | rfl | simp_all, Below.refl _ _⟩
  · have hf : R = false := by
      rw [← hR.out]
      unfold startsB
      refine decide_eq_false (fun h => ?_)
      have := congrArg List.length h
      rw [List.length_take, List.length_drop, L_length, L_length] at this
      omega
    subst hf
    clear hR
    go_enter Tryd.func69, Tryd.ntmps69
    go_wp2_with fail
    all_goals (try (exfalso; omega))
    go_ret
    exact ⟨rfl, Below.refl _ _⟩
set_option maxRecDepth 100000 in
theorem cutb_any (s t : ByteArray) (n : Nat) (w : World) (hs : s.size ≤ 4000000000) (_ht : t.size ≤ 4000000000) (hn : n ≤ s.size) :
    Calls Tryd.prog 70 #[.string s, .int .i64 n, .string t] w fun e w' => e = .returned (.bool (cutB ((L s).drop n) (L t))) ∧ Below w.heap.size w w' := by
  obtain ⟨R, hR⟩ := name_it (cutB ((L s).drop n) (L t))
  rw [hR.out]
  obtain ⟨m, hm⟩ : ∃ m : Nat, s.size = n + m := ⟨s.size - n, by omega⟩
  have hdl : ((L s).drop n).length = m := by rw [List.length_drop, L_length]; omega
  have hsub : (s.size : Int) - (n : Int) = (m : Int) := by omega
  have hw1 : IntKind.i64.wrap ((s.size : Int) - (n : Int)) = (m : Int) := by rw [hsub]; exact IntWalk.i64_in _ (by omega)
  have hw2 : IntKind.i64.wrap (m : Int) = (m : Int) := IntWalk.i64_in _ (by omega)
  have b0 : (0 : Int) ≤ (n : Int) := by omega
  have b1 : (n : Int) ≤ (s.size : Int) := by omega
  have b2 : (0 : Int) ≤ (m : Int) := by omega
  clear hw1
  have HMM := Lib.hid hm
  clear hm
  by_cases hlt : m < t.size
  · have hcmp : ((t.extract 0 m).toList == (s.extract n s.size).toList) = R := by
      rw [str_eq, extract_head, extract_tail, L_bs, L_bs, ← hR.out]
      unfold cutB
      rw [hdl, L_length, Bool.eq_iff_iff, decide_eq_true_eq, decide_eq_true_eq]
      exact ⟨fun h => ⟨hlt, h⟩, fun h => h.2⟩
    have hd1 : decide ((m : Int) < (t.size : Int)) = true := decide_eq_true (by omega)
    have b3 : (m : Int) ≤ (t.size : Int) := by omega
    have b4 : (m : Int) < (t.size : Int) := by omega
    clear hR hdl
    go_enter Tryd.func70, Tryd.ntmps70
    go_wp2_with fail
    go_quiet (fail)
    go_wp2_with fail
    go_ret
    exact ⟨by first | rfl | simp_all, below_drewN (Below.refl _ _) _⟩
  · have hf : R = false := by
      rw [← hR.out]
      unfold cutB
      refine decide_eq_false (fun h => ?_)
      rw [hdl, L_length] at h
      exact hlt h.1
    have hd1 : decide ((m : Int) < (t.size : Int)) = false := decide_eq_false (by omega)
    subst hf
    clear hR hdl
    go_enter Tryd.func70, Tryd.ntmps70
    go_wp2_with fail
    go_quiet (fail)
    go_wp2_with fail
    go_ret
    exact ⟨rfl, below_drewN (Below.refl _ _) _⟩

theorem pre_on (h : List UInt8) (c : UInt8) (r : LineR) : (r.on c).pre h = r.pre (h ++ [c]) := by
  cases r <;> simp [LineR.on, LineR.pre]
def rlineV (r : LineR) (at_ : Int) : Value := match r with
  | .short => .tuple #[.string ⟨#[]⟩, .int .i64 0, .int .i64 94]
  | .bad => .tuple #[.string ⟨#[]⟩, .int .i64 0, .int .i64 93]
  | .val x => .tuple #[.string (bs x), .int .i64 (at_ + x.length + 2), .int .i64 0]
theorem scan_end {d : List UInt8} {c : UInt8} {r : List UInt8} (hd : d = c :: r) (hc : isFld c = false) :
    scanT d = if cutB d [13, 10] = true then .short else if startsB d [13, 10] = true then .val [] else .bad := by
  subst hd
  rw [scanT_cons, hc, if_neg (by decide)]
  unfold cutB startsB
  by_cases h13 : c = 13
  · subst h13
    rw [if_pos rfl]
    cases r with
    | nil => simp [crEnd]
    | cons e r =>
      by_cases he : e = 10
      · subst he; simp [crEnd]; intro h; omega
      · simp [crEnd, he]; intro h; omega
  · rw [if_neg h13, if_neg, if_neg]
    · simp [h13]
    · simp only [decide_eq_true_eq]
      rintro ⟨h1, h2⟩
      cases r with
      | nil => simp at h2; exact h13 h2.symm
      | cons e r => simp at h1; omega

set_option maxRecDepth 100000 in
theorem rline_any (s nm hd : ByteArray) (n : Nat) (w : World) (hs : s.size ≤ 4000000000) (hcat : nm ++ ⟨#[58, 32]⟩ = hd) (hhl : hd.size ≤ 1000) (hnm : nm.size ≤ 1000) (hn : n ≤ s.size) :
    Calls Tryd.prog 71 #[.string s, .int .i64 n, .string nm] w fun e w' => e = .returned (rlineV (lineM (L hd) ((L s).drop n)) (n + hd.size)) ∧ Below w.heap.size w w' := by
  have HCAT := Lib.hid hcat
  clear hcat
  obtain ⟨V, hV⟩ := name_it (rlineV (lineM (L hd) ((L s).drop n)) (n + hd.size))
  rw [hV.out]
  have hLs := L_length s
  have hLh := L_length hd
  have c1 := fun wx => cutb_any s hd n wx hs (by omega) hn
  have c2 := fun wx => starts_any s hd n wx hs (by omega) hn
  have hdl : ((L s).drop n).length = s.size - n := by rw [List.length_drop, hLs]
  obtain ⟨f1, hf1⟩ := name_it (cutB ((L s).drop n) (L hd))
  obtain ⟨f2, hf2⟩ := name_it (startsB ((L s).drop n) (L hd))
  rw [hf1.out] at c1
  rw [hf2.out] at c2
  have C1 := Lib.hid c1
  have C2 := Lib.hid c2
  have hlm : Hid (lineM (L hd) ((L s).drop n) = if f1 = true then .short else if f2 = true then scanT ((L s).drop (n + hd.size)) else .bad) := by
    unfold Hid lineM
    rw [← hf1.out, ← hf2.out]
    by_cases hl : ((L s).drop n).length < (L hd).length
    · by_cases he : (L s).drop n = (L hd).take ((L s).drop n).length
      · have h1 : cutB ((L s).drop n) (L hd) = true := decide_eq_true ⟨hl, he.symm⟩
        rw [if_pos hl, if_pos he, h1]; rfl
      · have h1 : cutB ((L s).drop n) (L hd) = false := decide_eq_false (fun h => he h.2.symm)
        have h2 : startsB ((L s).drop n) (L hd) = false := decide_eq_false (fun h => by
          have := congrArg List.length h
          rw [List.length_take] at this
          omega)
        rw [if_pos hl, if_neg he, h1, h2]; rfl
    · have h1 : cutB ((L s).drop n) (L hd) = false := decide_eq_false (fun h => hl h.1)
      by_cases he : ((L s).drop n).take (L hd).length = L hd
      · have h2 : startsB ((L s).drop n) (L hd) = true := decide_eq_true he
        rw [if_neg hl, if_pos he, h1, h2, List.drop_drop, hLh]; rfl
      · have h2 : startsB ((L s).drop n) (L hd) = false := decide_eq_false he
        rw [if_neg hl, if_neg he, h1, h2]; rfl
  have hlen : f2 = true → n + hd.size ≤ s.size := by
    intro h
    rw [← hf2.out] at h
    have := congrArg List.length (of_decide_eq_true h)
    rw [List.length_take, hdl, hLh] at this
    omega
  clear c1 c2 hf1 hf2 hdl
  cases f1
  case true =>
    have hv : Hid (V = .tuple #[.string ⟨#[]⟩, .int .i64 0, .int .i64 94]) := by
      rw [← hV.out]; unfold Hid; rw [hlm.out, if_pos rfl]; rfl
    clear hV hlm hlen
    go_enter Tryd.func71, Tryd.ntmps71
    go_wp2_with fail
    all_goals (try (exfalso; omega))
    rw [HCAT.out]
    refine (C1.out _).mono ?_; rintro e w1 ⟨rfl, hb1⟩
    go_wp2_with fail
    go_ret3
    exact ⟨by rw [hv.out]; rfl, hb1⟩
  case false =>
  cases f2
  case false =>
    have hv : Hid (V = .tuple #[.string ⟨#[]⟩, .int .i64 0, .int .i64 93]) := by
      rw [← hV.out]; unfold Hid; rw [hlm.out, if_neg (by decide), if_neg (by decide)]; rfl
    clear hV hlm hlen
    go_enter Tryd.func71, Tryd.ntmps71
    go_wp2_with fail
    all_goals (try (exfalso; omega))
    rw [HCAT.out]
    refine (C1.out _).mono ?_; rintro e w1 ⟨rfl, hb1⟩
    go_wp2_with fail
    refine (C2.out _).mono ?_; rintro e w2 ⟨rfl, hb2⟩
    have d2 := hb1.trans (hb2.mono hb1.size)
    go_wp2_with fail
    go_ret3
    exact ⟨by rw [hv.out]; rfl, d2⟩
  case true =>
    have hlenp := hlen rfl
    clear hlen
    have hv : Hid (V = rlineV (scanT ((L s).drop (n + hd.size))) (n + hd.size)) := by
      rw [← hV.out]; unfold Hid; rw [hlm.out, if_neg (by decide), if_pos rfl]
    obtain ⟨p, hp⟩ : ∃ p : Nat, p = n + hd.size := ⟨_, rfl⟩
    have hpi : (n : Int) + (hd.size : Int) = (p : Int) := by omega
    rw [← hp] at hv hlenp
    rw [hpi] at hv
    clear hV hlm
    have HP := Lib.hid hp
    have HPI := Lib.hid hpi
    clear hpi
    go_enter Tryd.func71, Tryd.ntmps71
    go_wp2_with fail
    all_goals (try (exfalso; omega))
    rw [HCAT.out]
    refine (C1.out _).mono ?_; rintro e w1 ⟨rfl, hb1⟩
    go_wp2_with fail
    refine (C2.out _).mono ?_; rintro e w2 ⟨rfl, hb2⟩
    have d2 := hb1.trans (hb2.mono hb1.size)
    clear hb1 hb2
    go_wp2_with fail
    all_goals (try (exfalso; omega))
    go_loopw [10] (fun i wr => ∃ k : Nat, p ≤ k ∧ k ≤ s.size ∧ i = .int .i64 k ∧ Below w.heap.size w wr ∧ Hid (scanT ((L s).drop p) = (scanT ((L s).drop k)).pre (((L s).take k).drop p))) (fun i _ => s.size - (intOf i).toNat)
    case atStart =>
      refine ⟨p, Nat.le_refl _, hlenp, by first | rfl | (rw [← HPI.out]), d2, ?_⟩
      unfold Hid
      rw [List.drop_of_length_le (l := (L s).take p) (by rw [List.length_take]; omega)]
      cases scanT ((L s).drop p) <;> rfl
    case round =>
      obtain ⟨k, hpk, hk, rfl, hbr, hsc⟩ := hrel
      by_cases hlt : k < s.size
      · have hdr := L_drop hlt
        have hby := fun wx => isbyte_any s[k] wx
        cases hfc : isFld s[k]
        · rw [hfc] at hby
          have HBY := Lib.hid hby
          have hse := scan_end hdr hfc
          have c3 := fun wx => cutb_any s ⟨#[13, 10]⟩ k wx hs (by decide) hk
          have c4 := fun wx => starts_any s ⟨#[13, 10]⟩ k wx hs (by decide) hk
          have e13 : L (⟨#[13, 10]⟩ : ByteArray) = [13, 10] := rfl
          rw [e13] at c3 c4
          obtain ⟨g1, hg1⟩ := name_it (cutB ((L s).drop k) [13, 10])
          obtain ⟨g2, hg2⟩ := name_it (startsB ((L s).drop k) [13, 10])
          rw [hg1.out] at c3 hse
          rw [hg2.out] at c4 hse
          have C3 := Lib.hid c3
          have C4 := Lib.hid c4
          have hne : ((k : Int) == (s.size : Int)) = false := by simp; omega
          have hk2 : g2 = true → k + 2 ≤ s.size := by
            intro h
            rw [← hg2.out] at h
            have := congrArg List.length (of_decide_eq_true h)
            rw [List.length_take, List.length_drop, hLs] at this
            simp at this; omega
          have hxt : s.extract p k = bs (((L s).take k).drop p) := extract_bs s p k
          have hxl : (((L s).take k).drop p).length = k - p := by rw [List.length_drop, List.length_take, hLs]; omega
          obtain ⟨T, hT⟩ := name_it (((L s).take k).drop p)
          rw [hT.out] at hxt hxl hsc
          have HXT := Lib.hid hxt
          have hse2 := Lib.hid hse
          clear hby hdr c3 c4 hg1 hg2 hse hxt hT
          cases g1
          case true =>
            have hvv : Hid (V = .tuple #[.string ⟨#[]⟩, .int .i64 0, .int .i64 94]) := by
              unfold Hid; rw [hv.out, hsc.out, hse2.out, if_pos rfl]; rfl
            clear hv hsc hse2
            go_wp2_with (go_at_call 93; refine (HBY.out _).mono ?_; rintro e w' ⟨rfl, rfl⟩)
            all_goals (try (exfalso; omega))
            refine (C3.out _).mono ?_; rintro e w3 ⟨rfl, hb3⟩
            have d3 := hbr.trans (hb3.mono hbr.size)
            go_wp2_with fail
            go_ret3
            exact ⟨by rw [hvv.out]; rfl, d3⟩
          case false =>
          cases g2
          case false =>
            have hvv : Hid (V = .tuple #[.string ⟨#[]⟩, .int .i64 0, .int .i64 93]) := by
              unfold Hid; rw [hv.out, hsc.out, hse2.out, if_neg (by decide), if_neg (by decide)]; rfl
            clear hv hsc hse2
            go_wp2_with (go_at_call 93; refine (HBY.out _).mono ?_; rintro e w' ⟨rfl, rfl⟩)
            all_goals (try (exfalso; omega))
            refine (C3.out _).mono ?_; rintro e w3 ⟨rfl, hb3⟩
            have d3 := hbr.trans (hb3.mono hbr.size)
            go_wp2_with fail
            refine (C4.out _).mono ?_; rintro e w4 ⟨rfl, hb4⟩
            have d4 := d3.trans (hb4.mono d3.size)
            go_wp2_with fail
            go_ret3
            exact ⟨by rw [hvv.out]; rfl, d4⟩
          case true =>
            have hk2 := hk2 rfl
            have hvv : Hid (V = .tuple #[.string (bs T), .int .i64 (k + 2), .int .i64 0]) := by
              unfold Hid; rw [hv.out, hsc.out, hse2.out, if_neg (by decide), if_pos rfl]
              show Value.tuple #[.string (bs (T ++ [])), .int .i64 ((p : Int) + ((T ++ []).length : Int) + 2), .int .i64 0] = _
              rw [List.append_nil, hxl, show (p : Int) + ((k - p : Nat) : Int) = k by omega]
            clear hv hsc hse2
            go_wp2_with (go_at_call 93; refine (HBY.out _).mono ?_; rintro e w' ⟨rfl, rfl⟩)
            all_goals (try (exfalso; omega))
            refine (C3.out _).mono ?_; rintro e w3 ⟨rfl, hb3⟩
            have d3 := hbr.trans (hb3.mono hbr.size)
            go_wp2_with fail
            refine (C4.out _).mono ?_; rintro e w4 ⟨rfl, hb4⟩
            have d4 := d3.trans (hb4.mono d3.size)
            go_wp2_with fail
            all_goals (try (exfalso; omega))
            go_ret3
            exact ⟨by rw [hvv.out, ← HXT.out, HP.out]; rfl, d4⟩
        · rw [hfc] at hby
          have HBY := Lib.hid hby
          have hsc2 : Hid (scanT ((L s).drop p) = (scanT ((L s).drop (k + 1))).pre (((L s).take (k + 1)).drop p)) := by
            unfold Hid
            rw [hsc.out, hdr, scanT_cons, hfc, if_pos rfl, pre_on, L_take hlt, List.drop_append_of_le_length (by rw [List.length_take, hLs]; omega)]
          clear hby hdr hsc
          go_wp2_with (go_at_call 93; refine (HBY.out _).mono ?_; rintro e w' ⟨rfl, rfl⟩)
          all_goals (try (exfalso; omega))
          go_roundw
          case rel => exact ⟨k + 1, by omega, by omega, by go_num, hbr, hsc2⟩
          case measure => simp [intOf]; omega
      · obtain rfl : k = s.size := by omega
        have hvv : Hid (V = .tuple #[.string ⟨#[]⟩, .int .i64 0, .int .i64 94]) := by
          unfold Hid; rw [hv.out, hsc.out, L_drop_all]; rfl
        have hne : ((s.size : Int) == (s.size : Int)) = true := by simp
        clear hv hsc
        go_wp2_with fail
        all_goals (try (exfalso; omega))
        go_ret3
        exact ⟨by rw [hvv.out]; rfl, hbr⟩
end Go.Proofs.YtnodboggemggmaaDoor
