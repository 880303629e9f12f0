/- One cookie in a jar: whom it is sent to: plain. A jar of one cookie: what it sends: plain. Contracts of the document's Belongs and Under. Contract of the document's DefaultPath. Where a cookie is kept already: plain. -/
import Derived.Test.YtkenianfpfamcaaGreatDoorMk
import Derived.Test.YtkenianfpfamcaaGreatDoorDa
import Derived.BigQuiet
namespace Go.Proofs.YtkenianfpfamcaaGreatDoor
open Go Go.RowKit

theorem under_self (p : List UInt8) : underC p p = true := by
  unfold underC
  have h1 : p.isPrefixOf p = true := List.isPrefixOf_iff_prefix.2 (List.prefix_refl p)
  rw [h1]; simp
end Go.Proofs.YtkenianfpfamcaaGreatDoor
namespace Go.Proofs.YtkenianfpfamcaaGreatDoor
open Go Go.RowKit

theorem mom_bounds {n : Int} (h : isMom n = true) : -62135596800 ≤ n ∧ n ≤ 253402300799 := by
  unfold isMom at h
  simpa using h
theorem right_age {c : SetC} (h : wrongC c = 0) : 0 ≤ c.maxAge ∧ c.maxAge ≤ 34560000 := by
  unfold wrongC at h
  by_cases h1 : rightC c.name c.value = false
  · rw [if_pos h1] at h; cases h
  · rw [if_neg h1] at h
    by_cases h2 : badC c
    · rw [if_pos h2] at h; cases h
    · unfold badC at h2
      constructor
      · rcases Int.lt_or_le c.maxAge 0 with h3 | h3
        · exact absurd (by simp [h3]) h2
        · exact h3
      · rcases Int.lt_or_le 34560000 c.maxAge with h3 | h3
        · exact absurd (by simp [h3]) h2
        · exact h3
end Go.Proofs.YtkenianfpfamcaaGreatDoor
namespace Go.Proofs.YtkenianfpfamcaaGreatDoor
open Go Go.RowKit
set_option maxHeartbeats 4000000

theorem hostB_iff (c : UInt8) : hostB c = true ↔ (c.toNat = 46 ∨ (48 ≤ c.toNat ∧ c.toNat ≤ 57)) := by unfold hostB; exact decide_eq_true_iff
set_option maxRecDepth 100000 in
theorem rhostnum_any (s : ByteArray) (w : World) (hs : s.size ≤ maxLen) : Calls Tryz.prog 78 #[.string s] w fun e w' => e = .returned (.bool (numberC (L s))) ∧ w = w' := by
  unfold maxLen at hs
  have HR0 : Hid (numberC (L s) = (bracket (L s) || (L s).all hostB)) := rfl
  rw [HR0.out]
  clear HR0
  have hbr : bracket (L s) = decide ((L s).head? = some 91) := rfl
  obtain ⟨A, hA⟩ := name_it ((L s).all hostB)
  obtain ⟨B, hB⟩ := name_it (bracket (L s))
  rw [hA.out, hB.out]
  rw [hB.out] at hbr
  have hE := str_empty s
  have hF : (s.size = 0 ∧ s.toList.isEmpty = true ∧ B = false) ∨ (∃ h : 0 < s.size, s.toList.isEmpty = false ∧ B = ((s[0].toNat : Int) == 91)) := by
    by_cases hz : s.size = 0
    · have hn : L s = [] := List.eq_nil_of_length_eq_zero (by rw [L_length]; exact hz)
      exact Or.inl ⟨hz, by rw [hE, hn]; rfl, by rw [hbr, hn]; rfl⟩
    · have hn : L s ≠ [] := fun e => hz (by rw [← L_length, e]; rfl)
      refine Or.inr ⟨by omega, by rw [hE]; exact decide_eq_false hn, ?_⟩
      rw [hbr]
      have := head_get s 91 (by omega)
      rw [decide_not] at this
      exact Bool.not_inj this
  clear hbr hE hB
  rcases hF with ⟨hz, h1, rfl⟩ | ⟨hz, h1, h2⟩
  rotate_left
  · cases hc : ((s[0].toNat : Int) == 91)
    · rw [hc] at h2
      subst h2
      go_enter Tryz.func78, Tryz.ntmps78
      go_wp2_with fail
      all_goals (try (exfalso; omega))
      go_loop [3] (fun i => ∃ k : Nat, k ≤ s.size ∧ i = .int .i64 k ∧ Hid (((L s).drop k).all hostB = A)) (fun i => s.size - (intOf i).toNat)
      case atStart => exact ⟨0, Nat.zero_le _, rfl, hA⟩
      clear hA h1 hc
      case round =>
        obtain ⟨k, hk, rfl, hr⟩ := hrel
        by_cases hlt : k < s.size
        · have hi := hostB_iff s[k]
          cases hb : hostB s[k]
          · have hr2 := hr.out
            rw [L_drop hlt, List.all_cons, hb] at hr2
            rw [hb] at hi
            have HI : Hid (¬ (s[k].toNat = 46 ∨ (48 ≤ s[k].toNat ∧ s[k].toNat ≤ 57))) := fun h => by have := hi.2 h; cases this
            have HR : Hid (A = false) := by rw [← hr2]; rfl
            clear hr2 hr hi hb
            go_wp2_with fail
            all_goals (try (exfalso; have := HI.out; omega))
            all_goals
              go_ret
              exact ⟨ret_bool (by rw [HR.out]; try rfl), rfl⟩
          · have hr2 := hr.out
            rw [L_drop hlt, List.all_cons, hb] at hr2
            have HI := Lib.hid (hi.1 hb)
            have HR := Lib.hid hr2; clear hr2 hr hi hb
            go_wp2_with fail
            all_goals (try (exfalso; have := HI.out; omega))
            all_goals
              first
              | exact ⟨⟨k + 1, by omega, by go_num, Lib.hid (by have h := HR.out; simpa using h)⟩, by simp [intOf] <;> omega⟩
              | (go_round
                 case rel => exact ⟨k + 1, by omega, by go_num, Lib.hid (by have h := HR.out; simpa using h)⟩
                 case measure => simp [intOf] <;> omega)
        · obtain rfl : k = s.size := by omega
          rw [L_drop_all] at hr
          have HR : Hid (A = true) := hr.out.symm
          clear hr
          go_wp2_with fail
          all_goals (try (exfalso; omega))
          all_goals
            go_ret
            exact ⟨ret_bool (by rw [HR.out]; try rfl), rfl⟩
    · rw [hc] at h2
      subst h2
      go_enter Tryz.func78, Tryz.ntmps78
      go_wp2_with fail
      all_goals (try (exfalso; omega))
      go_ret
      exact ⟨ret_bool rfl, rfl⟩
  · have hA2 : Hid (A = true) := by
      have hn : L s = [] := List.eq_nil_of_length_eq_zero (by rw [L_length]; exact hz)
      rw [← hA.out, hn]; exact rfl
    clear hA
    go_enter Tryz.func78, Tryz.ntmps78
    go_wp2_with fail
    all_goals (try (exfalso; omega))
    go_loop [3] (fun i => i = .int .i64 0) (fun _ => 0)
    case atStart => rfl
    case round =>
      subst hrel
      go_wp2_with fail
      all_goals (try (exfalso; omega))
      go_ret
      exact ⟨ret_bool (by rw [hA2.out]; try rfl), rfl⟩
theorem suffix_drop (a b : List UInt8) (k : Nat) (h : b.length = a.length + k) : a.isSuffixOf b = decide (b.drop k = a) := by
  rw [Bool.eq_iff_iff, List.isSuffixOf_iff_suffix, decide_eq_true_eq, List.suffix_iff_eq_drop]
  have : b.length - a.length = k := by omega
  rw [this]
  exact eq_comm
set_option maxRecDepth 100000 in
theorem rbelongs_any (s t : ByteArray) (w : World) (hs : s.size ≤ 1073741824) (ht : t.size ≤ 1073741824) : Calls Tryz.prog 35 #[.string s, .string t] w fun e w' => e = .returned (.bool (belongsC (L s) (L t))) ∧ w = w' := by
  have HN := Lib.hid (fun wx => rhostnum_any s wx (by unfold maxLen; omega))
  have hR : Hid (belongsC (L s) (L t) = (decide (L s = L t) || (!numberC (L s) && (46 :: L t).isSuffixOf (L s)))) := rfl
  have hq := str_eq s t
  have hls := L_length s
  have hlt := L_length t
  rw [hR.out]
  have hC0 : (∃ k : Nat, (s.size : Int) - t.size - 1 = k ∧ (46 :: L t).isSuffixOf (L s) = ((s.extract k s.size).toList == ((⟨#[46]⟩ : ByteArray) ++ t).toList)) ∨ ((s.size : Int) - t.size - 1 < 0 ∧ (46 :: L t).isSuffixOf (L s) = false) := by
    by_cases h : t.size + 1 ≤ s.size
    · refine Or.inl ⟨s.size - t.size - 1, by omega, ?_⟩
      rw [suffix_drop _ _ (s.size - t.size - 1) (by rw [List.length_cons]; omega), str_eq]
      have e1 : L ((⟨#[46]⟩ : ByteArray) ++ t) = 46 :: L t := by
        have := bs_append [46] (L t)
        have h2 : L (bs [46] ++ bs (L t)) = [46] ++ L t := by rw [this, L_bs]
        exact h2
      rw [e1, extract_tail, L_bs]
    · refine Or.inr ⟨by omega, ?_⟩
      cases hx : (46 :: L t).isSuffixOf (L s) with
      | false => rfl
      | true =>
        have := (List.isSuffixOf_iff_suffix.1 hx).length_le
        rw [List.length_cons] at this
        omega
  obtain ⟨A, hA⟩ := name_it (decide (L s = L t))
  obtain ⟨B, hB⟩ := name_it (numberC (L s))
  obtain ⟨C, hC⟩ := name_it ((46 :: L t).isSuffixOf (L s))
  rw [hA.out] at hq
  simp only [hC.out] at hC0
  rw [hA.out, hB.out, hC.out]
  simp only [hB.out] at HN
  clear hR hA hB hC hls hlt
  cases A
  · rcases hC0 with ⟨k, hk, hc⟩ | ⟨hk, hc⟩
    · obtain ⟨X, hX⟩ : ∃ X, s.extract k s.size = X := ⟨_, rfl⟩
      obtain ⟨Y, hY⟩ : ∃ Y, (⟨#[46]⟩ : ByteArray) ++ t = Y := ⟨_, rfl⟩
      rw [hX, hY] at hc
      have hc2 : (X.toList == Y.toList) = C := hc.symm
      clear hc
      cases B
      all_goals
        go_enter Tryz.func35, Tryz.ntmps35
        go_wp2_with fail
        refine (HN.out _).mono ?_; rintro e w1 ⟨rfl, rfl⟩
        go_wp2_with fail
        all_goals (try (exfalso; omega))
        go_ret
        exact ⟨ret_bool (by simp), rfl⟩
    · subst hc
      cases B
      all_goals
        go_enter Tryz.func35, Tryz.ntmps35
        go_wp2_with fail
        refine (HN.out _).mono ?_; rintro e w1 ⟨rfl, rfl⟩
        go_wp2_with fail
        all_goals (try (exfalso; omega))
        go_ret
        exact ⟨ret_bool (by simp), rfl⟩
  · clear hC0
    go_enter Tryz.func35, Tryz.ntmps35
    go_wp2_with fail
    go_ret
    exact ⟨ret_bool (by simp), rfl⟩
theorem last_get (s : ByteArray) (c : UInt8) (j : Nat) (h : s.size = j + 1) : decide ((L s).getLast? = some c) = ((s[j].toNat : Int) == c.toNat) := by
  have hl := L_length s
  have e : (L s).getLast? = some s[j] := by
    rw [List.getLast?_eq_getElem?, hl]
    have hj : s.size - 1 = j := by omega
    rw [hj]
    have h1 := L_drop (s := s) (k := j) (by omega)
    have h2 : ((L s).drop j)[0]? = some s[j] := by rw [h1]; rfl
    simpa using h2
  rw [e, Bool.eq_iff_iff]
  simp [← UInt8.toNat_inj]
  omega
set_option maxRecDepth 100000 in
theorem runder_any (p c : ByteArray) (w : World) (_ : p.size ≤ 1073741824) (hc : c.size ≤ 1073741824) : Calls Tryz.prog 36 #[.string p, .string c] w fun e w' => e = .returned (.bool (underC (L p) (L c))) ∧ w = w' := by
  have hR : Hid (underC (L p) (L c) = ((L c).isPrefixOf (L p) && (decide ((L p).length = (L c).length) || (decide ((L c).getLast? = some 47) || decide (((L p).drop (L c).length).head? = some 47))))) := rfl
  have hq := str_eq p c
  have hlp := L_length p
  have hlc := L_length c
  by_cases he : L p = L c
  · have hR2 : Hid (underC (L p) (L c) = true) := by rw [he]; exact under_self _
    rw [decide_eq_true he] at hq
    rw [hR2.out]
    clear hR hlp hlc he
    go_enter Tryz.func36, Tryz.ntmps36
    go_wp2_with fail
    go_ret
    exact ⟨rfl, rfl⟩
  · rw [decide_eq_false he] at hq
    by_cases hle : p.size ≤ c.size
    · have hR2 : Hid (underC (L p) (L c) = false) := by
        unfold Hid
        rw [hR.out]
        cases hx : (L c).isPrefixOf (L p) with
        | false => rfl
        | true =>
          have h1 := List.isPrefixOf_iff_prefix.1 hx
          exact absurd (h1.eq_of_length_le (by omega)).symm he
      rw [hR2.out]
      clear hR hlp hlc he
      go_enter Tryz.func36, Tryz.ntmps36
      go_wp2_with fail
      all_goals (try (exfalso; omega))
      go_ret
      exact ⟨rfl, rfl⟩
    · have hpx : (L c).isPrefixOf (L p) = ((p.extract 0 c.size).toList == c.toList) := by
        rw [str_eq, extract_head, L_bs, ← hlc, Bool.eq_iff_iff, List.isPrefixOf_iff_prefix, decide_eq_true_eq, List.prefix_iff_eq_take]
        exact eq_comm
      have hlen : decide ((L p).length = (L c).length) = false := decide_eq_false (by omega)
      have hltc : c.size < p.size := Nat.lt_of_not_le hle
      have hH : decide (((L p).drop (L c).length).head? = some 47) = (((p[c.size]'hltc).toNat : Int) == 47) := by
        rw [hlc, L_drop (by omega), List.head?_cons, Bool.eq_iff_iff]
        simp [← UInt8.toNat_inj]
        omega
      have hG : (c.size = 0 ∧ c.toList.isEmpty = true ∧ decide ((L c).getLast? = some 47) = false) ∨ (∃ (j : Nat) (h : c.size = j + 1), (c.size : Int) - 1 = j ∧ c.toList.isEmpty = false ∧ decide ((L c).getLast? = some 47) = (((c[j]'(h ▸ Nat.lt_succ_self j)).toNat : Int) == 47)) := by
        have hE := str_empty c
        by_cases hz : c.size = 0
        · have hn : L c = [] := List.eq_nil_of_length_eq_zero (by rw [L_length]; exact hz)
          exact Or.inl ⟨hz, by rw [hE, hn]; rfl, by rw [hn]; rfl⟩
        · have hn : L c ≠ [] := fun e => hz (by rw [← L_length, e]; rfl)
          exact Or.inr ⟨c.size - 1, by omega, by omega, by rw [hE]; exact decide_eq_false hn, last_get c 47 (c.size - 1) (by omega)⟩
      rw [hR.out, hlen, hH, hpx, Bool.false_or]
      obtain ⟨G, hGn⟩ := name_it (decide ((L c).getLast? = some 47))
      simp only [hGn.out] at hG ⊢
      obtain ⟨X, hX⟩ : ∃ X, p.extract 0 c.size = X := ⟨_, rfl⟩
      rw [hX]
      clear hR hlen hH hpx hGn hlp he
      cases hp2 : (X.toList == c.toList)
      · clear hG
        go_enter Tryz.func36, Tryz.ntmps36
        go_wp2_with fail
        all_goals (try (exfalso; omega))
        go_ret
        exact ⟨ret_bool (by simp), rfl⟩
      · rcases hG with ⟨hz, h1, rfl⟩ | ⟨j, hj, hj2, h1, h2⟩
        · clear hz hlc
          cases h4 : (((p[c.size]'hltc).toNat : Int) == 47)
          all_goals
            go_enter Tryz.func36, Tryz.ntmps36
            go_wp2_with fail
            all_goals (try (exfalso; omega))
            all_goals
              go_ret
              exact ⟨ret_bool (by first | rfl | simp), rfl⟩
        · have hjb : j < c.size := hj ▸ Nat.lt_succ_self j
          have h3 : (((c[j]'hjb).toNat : Int) == 47) = G := h2.symm
          clear hj h2 hlc
          cases h4 : (((p[c.size]'hltc).toNat : Int) == 47)
          all_goals
            cases G
            all_goals
              go_enter Tryz.func36, Tryz.ntmps36
              go_wp2_with fail
              all_goals (try (exfalso; omega))
              all_goals
                go_ret
                exact ⟨ret_bool (by first | rfl | simp), rfl⟩
end Go.Proofs.YtkenianfpfamcaaGreatDoor
namespace Go.Proofs.YtkenianfpfamcaaGreatDoor
open Go Go.RowKit
set_option maxHeartbeats 4000000

theorem last_at (s : ByteArray) : ∀ n : Nat, n ≤ s.size → (∃ (j : Nat) (h : j < s.size), j < n ∧ s[j] = 47) → ∃ (i : Nat) (h : i < s.size), i < n ∧ s[i] = 47 ∧ ∀ (j : Nat) (hj : j < s.size), i < j → j < n → s[j] ≠ 47
  | 0, _, ⟨j, _, h, _⟩ => by omega
  | n + 1, hn, h => by
    by_cases he : s[n] = 47
    · exact ⟨n, by omega, by omega, he, fun j _ h1 h2 => by omega⟩
    · obtain ⟨j, hj, hjn, hj47⟩ := h
      have hne : j ≠ n := fun e => he (by subst e; exact hj47)
      obtain ⟨i, hi, h1, h2, h3⟩ := last_at s n (by omega) ⟨j, hj, by omega, hj47⟩
      refine ⟨i, hi, by omega, h2, fun k hk h4 h5 => ?_⟩
      by_cases hkn : k = n
      · subst hkn; exact he
      · exact h3 k hk h4 (by omega)
theorem last47 (s : ByteArray) (h : (L s).head? = some 47) : ∃ (i : Nat) (hi : i < s.size), s[i] = 47 ∧ (∀ (j : Nat) (hj : j < s.size), i < j → s[j] ≠ 47) ∧ (L s).take i = dirC (L s) := by
  have hz : 0 < s.size := by
    rcases Nat.eq_zero_or_pos s.size with hz | hz
    · have : L s = [] := List.eq_nil_of_length_eq_zero (by rw [L_length]; exact hz)
      rw [this] at h; cases h
    · exact hz
  have h0 : s[0] = 47 := by
    have e := L_drop (s := s) (k := 0) hz
    rw [List.drop_zero] at e
    rw [e, List.head?_cons] at h
    injection h
  obtain ⟨i, hi, _, h2, h3⟩ := last_at s s.size (Nat.le_refl _) ⟨0, hz, hz, h0⟩
  refine ⟨i, hi, h2, fun j hj h4 => h3 j hj h4 hj, ?_⟩
  have e1 : L s = (L s).take i ++ 47 :: (L s).drop (i + 1) := by
    have e := L_drop (s := s) hi
    rw [h2] at e
    rw [← e, List.take_append_drop]
  have e2 := dir_take (a := (L s).take i) (b := (L s).drop (i + 1)) (fun d hd => by
    obtain ⟨k, hk, hkd⟩ := List.getElem_of_mem hd
    rw [List.length_drop, L_length] at hk
    rw [List.getElem_drop] at hkd
    have e3 : (L s)[i + 1 + k]'(by rw [L_length]; omega) = s[i + 1 + k] := by
      have e4 := L_drop (s := s) (k := i + 1 + k) (by omega)
      have e5 : ((L s).drop (i + 1 + k))[0]? = some s[i + 1 + k] := by rw [e4]; rfl
      rw [List.getElem?_drop] at e5
      exact (List.getElem?_eq_some_iff.1 e5).2
    rw [← hkd, e3]
    exact h3 (i + 1 + k) (by omega) (by omega) (by omega))
  rw [← e1] at e2
  exact e2.symm
set_option maxRecDepth 100000 in
theorem rdefpath_any (s : ByteArray) (w : World) (hs : s.size ≤ 1073741824) : Calls Tryz.prog 64 #[.string s] w fun e w' => e = .returned (.string (bs (defPathC (L s)))) ∧ w = w' := by
  have hE := str_empty s
  by_cases hh : (L s).head? = some 47
  · obtain ⟨i, hi, hsi, hlast, htk⟩ := last47 s hh
    have hne : s.toList.isEmpty = false := by
      rw [hE]; exact decide_eq_false (fun e => by rw [e] at hh; cases hh)
    have h00 : 0 < s.size := by omega
    have h0 : ((s[0].toNat : Int) == 47) = true := by
      have h1 := head_get s 47 h00
      rw [decide_not, decide_eq_true hh] at h1
      exact (Bool.not_inj h1).symm
    have HD : Hid (defPathC (L s) = if i = 0 then [47] else (L s).take i) := by
      unfold Hid defPathC
      rw [← htk]
      by_cases hz : i = 0
      · subst hz
        rw [if_pos rfl, if_neg (fun h => h.2 rfl)]
      · rw [if_neg hz, if_pos ⟨hh, fun e => hz (by have := congrArg List.length e; rw [List.length_take, L_length, List.length_nil] at this; omega)⟩]
    have HL := Lib.hid hlast
    clear hE hh htk hlast
    obtain ⟨D, hD⟩ := name_it (bs (defPathC (L s)))
    have HDD : Hid (D = bs (if i = 0 then [47] else (L s).take i)) := by rw [← hD.out, HD.out]; exact rfl
    rw [hD.out]
    clear HD hD
    go_enter Tryz.func64, Tryz.ntmps64
    go_wp2_with fail
    all_goals (try (exfalso; omega))
    go_loop [3] (fun v => ∃ n : Nat, i ≤ n ∧ n < s.size ∧ v = .int .i64 n) (fun v => (intOf v).toNat)
    case atStart => exact ⟨s.size - 1, by omega, by omega, by congr 1; omega⟩
    clear h0 hne
    case round =>
      obtain ⟨n, hn1, hn2, rfl⟩ := hrel
      by_cases hni : n = i
      · subst hni
        have h1 : ((s[n].toNat : Int) == 47) = true := by rw [hsi]; rfl
        clear hsi HL
        by_cases hz : n = 0
        · have hz2 : ((n : Int) == 0) = true := by subst hz; rfl
          have HZ : Hid (D = bs [47]) := by rw [HDD.out, if_pos hz]; exact rfl
          clear hz HDD
          go_wp2_with fail
          all_goals (try (exfalso; omega))
          go_ret
          exact ⟨by rw [HZ.out]; rfl, rfl⟩
        · have hz2 : ((n : Int) == 0) = false := by rw [beq_eq_false_iff_ne]; omega
          have HZ : Hid (D = s.extract 0 n) := by rw [HDD.out, if_neg hz, extract_head]; exact rfl
          clear HDD
          go_wp2_with fail
          all_goals (try (exfalso; omega))
          go_ret
          exact ⟨by rw [HZ.out]; rfl, rfl⟩
      · have h1 : ((s[n].toNat : Int) == 47) = false := by
          have := HL.out n hn2 (by omega)
          rw [beq_eq_false_iff_ne]
          intro e
          exact this (UInt8.toNat_inj.1 (by show s[n].toNat = 47; omega))
        clear hsi HL
        go_wp2_with fail
        all_goals (try (exfalso; omega))
        go_round
        case rel => exact ⟨n - 1, by omega, by omega, by congr 1; omega⟩
        case measure => simp [intOf]; omega
  · have HD : Hid (defPathC (L s) = [47]) := by
      unfold Hid defPathC
      rw [if_neg (fun h => hh h.1)]
    rw [HD.out]
    have hF : (s.size = 0 ∧ s.toList.isEmpty = true) ∨ (∃ h : 0 < s.size, s.toList.isEmpty = false ∧ ((s[0].toNat : Int) == 47) = false) := by
      by_cases hz : s.size = 0
      · have hn : L s = [] := List.eq_nil_of_length_eq_zero (by rw [L_length]; exact hz)
        exact Or.inl ⟨hz, by rw [hE, hn]; rfl⟩
      · have hn : L s ≠ [] := fun e => hz (by rw [← L_length, e]; rfl)
        refine Or.inr ⟨by omega, by rw [hE]; exact decide_eq_false hn, ?_⟩
        have h1 := head_get s 47 (by omega)
        rw [decide_not, decide_eq_false hh] at h1
        exact (Bool.not_inj h1).symm
    clear hE hh HD
    rcases hF with ⟨hz, h1⟩ | ⟨hz, h1, h2⟩
    · have HZ := Lib.hid hz
      clear hz
      go_enter Tryz.func64, Tryz.ntmps64
      go_wp2_with fail
      go_ret
      exact ⟨rfl, rfl⟩
    · go_enter Tryz.func64, Tryz.ntmps64
      go_wp2_with fail
      all_goals (try (exfalso; omega))
      go_ret
      exact ⟨rfl, rfl⟩
end Go.Proofs.YtkenianfpfamcaaGreatDoor
namespace Go.Proofs.YtkenianfpfamcaaGreatDoor
open Go Go.RowKit

abbrev KeyC := List UInt8 × List UInt8 × List UInt8
/-- the last place among the first k at which a key stands; -1: none -/
def plc (K : KeyC) (l : List Kp) : Nat → Int
  | 0 => -1
  | k + 1 => if (l[k]?).map Kp.key = some K then (k : Int) else plc K l k
theorem plc_succ {K : KeyC} {l : List Kp} {k : Nat} (h : k < l.length) : plc K l (k + 1) = if l[k].key = K then (k : Int) else plc K l k := by
  rw [plc, List.getElem?_eq_getElem h]
  simp
theorem plc_upto (K : KeyC) (l : List Kp) : ∀ k : Nat, k ≤ l.length → (plc K l k = -1 ∧ ∀ (j : Nat) (h : j < l.length), j < k → l[j].key ≠ K) ∨ ∃ (i : Nat) (h : i < l.length), plc K l k = i ∧ i < k ∧ l[i].key = K
  | 0, _ => Or.inl ⟨rfl, fun j _ h => by omega⟩
  | k + 1, hk => by
    rw [plc_succ (by omega)]
    by_cases h : l[k].key = K
    · rw [if_pos h]
      exact Or.inr ⟨k, by omega, rfl, by omega, h⟩
    · rw [if_neg h]
      rcases plc_upto K l k (by omega) with ⟨h1, h2⟩ | ⟨i, hi, h1, h2, h3⟩
      · refine Or.inl ⟨h1, fun j hj hjk => ?_⟩
        by_cases e : j = k
        · subst e; exact h
        · exact h2 j hj (by omega)
      · exact Or.inr ⟨i, hi, h1, by omega, h3⟩
theorem plc_le (K : KeyC) (l : List Kp) (k : Nat) (hk : k ≤ l.length) : -1 ≤ plc K l k ∧ plc K l k < k := by
  rcases plc_upto K l k hk with ⟨h1, _⟩ | ⟨i, _, h1, h2, _⟩ <;> rw [h1] <;> omega
theorem was_none {l : List Kp} {k : Kp} (h : ∀ (j : Nat) (hj : j < l.length), l[j].key ≠ k.key) : wasC l k = none ∧ putC l k = l ++ [k] := by
  have h1 : wasC l k = none := by
    unfold wasC
    rw [List.find?_eq_none]
    intro y hy
    obtain ⟨j, hj, rfl⟩ := List.getElem_of_mem hy
    simpa using h j hj
  refine ⟨h1, ?_⟩
  unfold putC
  rw [h1]
theorem was_some {l : List Kp} {k : Kp} (hn : (l.map Kp.key).Nodup) {i : Nat} (hi : i < l.length) (h : l[i].key = k.key) : wasC l k = some l[i] ∧ putC l k = l.set i k := by
  have huni : ∀ (j : Nat) (hj : j < l.length), l[j].key = k.key → j = i := by
    intro j hj hjk
    have e : (l.map Kp.key)[j]'(by rw [List.length_map]; exact hj) = (l.map Kp.key)[i]'(by rw [List.length_map]; exact hi) := by
      rw [List.getElem_map, List.getElem_map, hjk, h]
    rcases Nat.lt_trichotomy j i with hlt | heq | hgt
    · exact absurd e (List.pairwise_iff_getElem.1 hn j i _ _ hlt)
    · exact heq
    · exact absurd e.symm (List.pairwise_iff_getElem.1 hn i j _ _ hgt)
  have h1 : wasC l k = some l[i] := by
    cases hw : wasC l k with
    | none =>
      unfold wasC at hw
      rw [List.find?_eq_none] at hw
      exact absurd h (by simpa using hw _ (List.getElem_mem hi))
    | some y =>
      have hy := List.find?_some (p := fun y : Kp => decide (y.key = k.key)) hw
      have hm := List.mem_of_find?_eq_some hw
      obtain ⟨j, hj, rfl⟩ := List.getElem_of_mem hm
      have := huni j hj (of_decide_eq_true hy)
      subst this; rfl
  refine ⟨h1, ?_⟩
  unfold putC
  rw [h1]
  apply List.ext_getElem
  · simp
  · intro j h2 h3
    rw [List.length_map] at h2
    rw [List.getElem_map, List.getElem_set]
    by_cases e : i = j
    · subst e
      rw [if_pos h, if_pos rfl]
    · rw [if_neg (fun e2 => e (huni j h2 e2).symm), if_neg e]
theorem key_iff (a : Kp) (n d p : List UInt8) : (a.key = (n, d, p)) ↔ (a.c.name = n ∧ a.dom = d ∧ a.path = p) := by
  unfold Kp.key
  simp
end Go.Proofs.YtkenianfpfamcaaGreatDoor
