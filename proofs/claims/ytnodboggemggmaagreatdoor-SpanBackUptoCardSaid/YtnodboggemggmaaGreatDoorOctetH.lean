/- Contract of octet: the elements of a list. -/
import Derived.Test.YtnodboggemggmaaGreatDoorOctetG
namespace Go.Proofs.YtnodboggemggmaaGreatDoor
open Go Go.RowKit
set_option maxHeartbeats 2000000

def ListRes (o : Option (List (List UInt8))) (w : World) (e : Ending) (w' : World) : Prop :=
  ∃ v, e = .returned (.tuple #[v, .int .i64 (listE o)]) ∧ Texts w' w.heap.size v (listL o) ∧ Below w.heap.size w w'

set_option maxRecDepth 100000 in
theorem list_any (s : ByteArray) (w : World) (hs : s.size ≤ 1099511627776) :
    Calls Tryz.prog 13 #[.string s] w (ListRes (listOf (L s)) w) := by
  obtain ⟨i0, hi, hz0, hz1, hz2⟩ := info_parts infoString
  obtain ⟨R, hR⟩ := name_it (listOf (L s))
  rw [hR.out]
  obtain ⟨R0, hR0⟩ := name_it (splitQ ((L s).length + 1) (L s) [])
  have hRR : Hid (R = R0.map keep) := by unfold Hid; rw [← hR.out, ← hR0.out]; rfl
  have hL := L_length s
  obtain ⟨B, hB⟩ : ∃ B, Hid (B = w.heap.size) := ⟨_, rfl⟩
  have hBw : B ≤ w.heap.size := by rw [hB.out]; exact Nat.le_refl _
  have hend : ∀ {e : Ending} {w' : World} {v : Value}, e = .returned (.tuple #[v, .int .i64 (listE R)]) → Texts w' B v (listL R) → Below B w w' → ListRes R w e w' := by
    intro e w' v h1 h2 h3
    rw [hB.out] at h2 h3
    exact ⟨v, h1, h2, h3⟩
  have HE : Hid (∀ {e : Ending} {w' : World} {v : Value}, e = .returned (.tuple #[v, .int .i64 (listE R)]) → Texts w' B v (listL R) → Below B w w' → ListRes R w e w') := hend
  clear hend
  go_enter Tryz.func13, Tryz.ntmps13
  go_wp2_with fail
  go_step3
  go_wp2_with fail
  go_step3
  go_wp2_with fail
  go_loopw [4, 5, 6] (fun out fr at' wr => ∃ (f k : Nat) (ps : List (List UInt8)), f ≤ k ∧ k ≤ s.size ∧ fr = .int .i64 f ∧ at' = .int .i64 k ∧ Hid (Texts wr B out ps) ∧ Hid (∀ p ∈ ps, p.length ≤ s.size) ∧ ps.length ≤ k ∧
      Hid ((splitQ (s.size - k + 1) ((L s).drop k) (((L s).take k).drop f)).map (ps ++ ·) = R0) ∧ Below B w wr) (fun _ _ k _ => s.size - (intOf k).toNat)
  case atStart => exact ⟨0, 0, [], by omega, by omega, rfl, rfl, World.ownsRow_nil _ _ _ _, (fun _ h => by cases h), by simp, by unfold Hid; rw [← hR0.out, hL]; simp, Below.refl _ _⟩
  case round =>
    obtain ⟨f, k, ps, hfk, hk, rfl, rfl, htx, hpb, hpl, hr, hbr⟩ := hrel
    by_cases hlt : k < s.size
    · obtain ⟨c, hc⟩ := name_it s[k]
      have hdr : Hid ((L s).drop k = c :: (L s).drop (k + 1)) := by rw [← hc.out]; exact L_drop hlt
      have htk : Hid ((L s).take (k + 1) = (L s).take k ++ [c]) := by rw [← hc.out]; exact L_take hlt
      have hne : ((k : Int) == (s.size : Int)) = false := by simp; omega
      have hck := hc.out
      by_cases hq : (c.toNat : Int) = 34
      · have hqb : ((c.toNat : Int) == 34) = true := by simp [hq]
        have hx : Hid (s.extract k s.size = bs ((L s).drop k)) := extract_tail s k
        have HQ := Lib.hid hq; clear hq
        go_wp2_with fail
        rw [hx.out]
        have hsz : Hid ((bs ((L s).drop k)).size ≤ 1099511627776) := by unfold Hid; rw [size_bs, List.length_drop]; omega
        refine (unquote_any _ _ hsz.out).mono ?_; rintro e w2 ⟨rfl, hb2⟩
        rw [L_bs]
        cases hu : unq ((L s).drop k) with
        | none =>
          have hno : Hid (R = none) := by
            have := hr.out
            rw [hdr.out] at this hu
            rw [splitQ_q HQ.out, hu] at this
            rw [hRR.out, ← this]; rfl
          have HU := Lib.hid hu; clear hu
          have he0 : Hid (unqE none = 13) := rfl
          have hbw := hbr.trans (hb2.mono (Nat.le_trans hBw hbr.size))
          simp only [unqE, unqN, unqS]
          go_wp2_with fail
          go_ret2
          refine HE.out ?_ ?_ hbw (v := .slice none 0 0)
          · rw [hno.out]; rfl
          · rw [hno.out]; exact World.ownsRow_nil _ _ _ _
        | some p =>
          obtain ⟨a, n⟩ := p
          have hbd := unq_bd hu
          rw [List.length_drop, hL] at hbd
          have hr2 : Hid ((splitQ (s.size - (k + n) + 1) ((L s).drop (k + n)) (((L s).take (k + n)).drop f)).map (ps ++ ·) = R0) := by
            have := hr.out
            rw [hdr.out] at this hu
            rw [splitQ_q HQ.out, hu] at this
            simp only [] at this
            rw [← hdr.out, List.drop_drop, splitQ_fuel (s.size - k) _ _ (s.size - (k + n) + 1) (by rw [List.length_drop, hL]; omega) (by rw [List.length_drop, hL]; omega)] at this
            have e1 : ((L s).take k).drop f ++ ((L s).drop k).take n = ((L s).take (k + n)).drop f := by
              rw [List.take_add, List.drop_append_of_le_length (by rw [List.length_take, hL]; omega)]
            rw [e1] at this
            exact this
          have HU := Lib.hid hu; clear hu
          have hbw := hbr.trans (hb2.mono (Nat.le_trans hBw hbr.size))
          have htx2 : Hid (Texts w2 B _ ps) := own_keep htx.out hb2 (Nat.le_refl _)
          have hn1 := hbd.1
          have hn2 := hbd.2
          simp only [unqE, unqN, unqS]
          go_wp2_with fail
          go_roundw
          case rel => exact ⟨f, k + n, ps, by omega, by omega, rfl, by go_num, htx2, hpb, by omega, hr2, hbw⟩
          case measure => simp [intOf]; omega
      · have hqb : ((c.toNat : Int) == 34) = false := by simp [hq]
        by_cases hcm : (c.toNat : Int) = 44
        · have hcb : ((c.toNat : Int) == 44) = true := by simp [hcm]
          have hr2 : Hid ((splitQ (s.size - (k + 1) + 1) ((L s).drop (k + 1)) (((L s).take (k + 1)).drop (k + 1))).map ((ps ++ [((L s).take k).drop f]) ++ ·) = R0) := by
            have := hr.out
            rw [hdr.out, splitQ_comma hcm] at this
            have e0 : ((L s).take (k + 1)).drop (k + 1) = [] := List.drop_of_length_le (by rw [List.length_take]; omega)
            rw [e0, show s.size - (k + 1) + 1 = s.size - k by omega, ← this, Option.map_map]
            congr 1
            funext x; simp
          have HQ := Lib.hid hq; have HC := Lib.hid hcm; clear hq hcm
          have hpb2 : Hid (∀ p ∈ ps ++ [((L s).take k).drop f], p.length ≤ s.size) := by
            intro p hp
            rcases List.mem_append.1 hp with h | h
            · exact hpb.out p h
            · rw [List.mem_singleton] at h; subst h; rw [List.length_drop, List.length_take, hL]; omega
          have hx : Hid (Value.string (s.extract f k) = strV (((L s).take k).drop f)) := by unfold Hid strV; rw [extract_bs]
          have hbs := hbr.size
          go_wp2_with (at_builtin; refine append1 rfl _ _ 45 rfl B 9 i0 (.string ⟨#[]⟩) 16 Tryz.underlying45 hi hz0 hz1 hz2 rfl htx.out rfl (.string (s.extract f k)) rfl rfl ?_ ?_ ?_ ?_)
          · unfold maxLen; omega
          · omega
          · omega
          intro g cap w2 hg hown2 hb2
          rw [hx.out] at hown2
          have htx2 : Hid (Texts w2 B (.slice (some ⟨g, 0, none⟩) (ps.length + 1) cap) (ps ++ [((L s).take k).drop f])) := texts_snoc hown2
          clear hown2
          have hbw := hbr.trans hb2
          go_wp2_with fail
          go_roundw
          case rel => exact ⟨k + 1, k + 1, ps ++ [((L s).take k).drop f], by omega, by omega, by go_num, by go_num, htx2, hpb2, by simp; omega, hr2, hbw⟩
          case measure => simp [intOf]; omega
        · have hcb : ((c.toNat : Int) == 44) = false := by simp [hcm]
          have hr2 : Hid ((splitQ (s.size - (k + 1) + 1) ((L s).drop (k + 1)) (((L s).take (k + 1)).drop f)).map (ps ++ ·) = R0) := by
            have := hr.out
            rw [hdr.out, splitQ_else hq hcm] at this
            rw [htk.out, List.drop_append_of_le_length (by rw [List.length_take]; omega), show s.size - (k + 1) + 1 = s.size - k by omega]
            exact this
          have HQ := Lib.hid hq; have HC := Lib.hid hcm; clear hq hcm
          go_wp2_with fail
          go_roundw
          case rel => exact ⟨f, k + 1, ps, by omega, by omega, rfl, by go_num, htx, hpb, by omega, hr2, hbr⟩
          case measure => simp [intOf]; omega
    · obtain rfl : k = s.size := by omega
      have hr2 : Hid (R = some (keep (ps ++ [(L s).drop f]))) := by
        have := hr.out
        rw [L_drop_all, L_take_all, splitQ_nil] at this
        rw [hRR.out, ← this]; rfl
      obtain ⟨qs, hqs⟩ := name_it (ps ++ [(L s).drop f])
      rw [hqs.out] at hr2
      have hqn : qs.length ≤ s.size + 1 := by rw [← hqs.out]; simp; omega
      have hx : Hid (Value.string (s.extract f s.size) = strV ((L s).drop f)) := by unfold Hid strV; rw [extract_tail]
      have hbs := hbr.size
      have hne : ((s.size : Int) == (s.size : Int)) = true := by simp
      clear hr
      go_wp2_with (at_builtin; refine append1 rfl _ _ 45 rfl B 9 i0 (.string ⟨#[]⟩) 16 Tryz.underlying45 hi hz0 hz1 hz2 rfl htx.out rfl (.string (s.extract f s.size)) rfl rfl ?_ ?_ ?_ ?_)
      · unfold maxLen; omega
      · omega
      · omega
      intro g cap w2 hg hown2 hb2
      rw [hx.out] at hown2
      have hlen : ps.length + 1 = qs.length := by rw [← hqs.out]; simp
      have htx2 : Hid (Texts w2 B (.slice (some ⟨g, 0, none⟩) qs.length cap) qs) := by
        have := texts_snoc hown2
        rw [hqs.out, hlen] at this
        exact this
      rw [hlen]
      clear hown2
      have hbw := hbr.trans hb2
      have hgl : g < w2.heap.size := (World.ownsRow.lt htx2.out g rfl).2
      have hqb : Hid (∀ p ∈ qs, p.length ≤ s.size) := by
        rw [← hqs.out]
        intro p hp
        rcases List.mem_append.1 hp with h | h
        · exact hpb.out p h
        · rw [List.mem_singleton] at h; subst h; rw [List.length_drop, hL]; omega
      have hcells : ∀ j (hj : j < qs.length), w2.cell? ⟨g, j, none⟩ = some (.string (bs qs[j])) := by
        intro j hj
        rw [World.ownsRow.cellAt htx2.out j (by omega)]
        simp [strV, hj]
      have HC := Lib.hid hcells; clear hcells
      obtain ⟨B2, hB2⟩ : ∃ B2, Hid (B2 = w2.heap.size) := ⟨_, rfl⟩
      have hB2w : B2 ≤ w2.heap.size := by rw [hB2.out]; exact Nat.le_refl _
      have hB2B : B ≤ B2 := by rw [hB2.out]; exact Nat.le_trans hBw hbw.size
      have hgl2 : g < B2 := by rw [hB2.out]; exact hgl
      clear hgl hqs hx htx hpb hlen hpl hbs
      go_wp2_with fail
      go_loopw [10, 12, 60] (fun full _ i wr => ∃ k : Nat, k ≤ qs.length ∧ i = .int .i64 k ∧ Hid (Texts wr B2 full (keep (qs.take k))) ∧ (keep (qs.take k)).length ≤ k ∧ Below B2 w2 wr) (fun _ _ i _ => qs.length - (intOf i).toNat)
      case atStart => exact ⟨0, Nat.zero_le _, rfl, World.ownsRow_nil _ _ _ _, Nat.le_refl _, Below.refl _ _⟩
      case round =>
        obtain ⟨k, hk, rfl, hkp, hkl, hbk⟩ := hrel
        by_cases hlt : k < qs.length
        · obtain ⟨x, hx⟩ := name_it qs[k]
          have hcx : wr.cell? ⟨g, k, none⟩ = some (.string (bs x)) := by
            rw [hbk.cell (p := ⟨g, k, none⟩) hgl2, HC.out k hlt, hx.out]
          have hxl : x.length ≤ s.size := by rw [← hx.out]; exact hqb.out _ (List.getElem_mem _)
          have htk : Hid (qs.take (k + 1) = qs.take k ++ [x]) := by unfold Hid; rw [List.take_succ_eq_append_getElem hlt, hx.out]
          go_wp2_with fail
          refine (trim_any (bs x) _ (by rw [size_bs]; unfold maxLen; omega)).mono ?_; rintro e w3 ⟨rfl, hb3⟩
          rw [L_bs]
          have hkp3 : Hid (Texts w3 B2 _ (keep (qs.take k))) := own_keep hkp.out hb3 (Nat.le_refl _)
          have hbk3 := hbk.trans (hb3.mono (Nat.le_trans hB2w hbk.size))
          clear hkp
          rcases ht : trim x with _ | ⟨c, r⟩
          · have hk4 : Hid (keep (qs.take (k + 1)) = keep (qs.take k)) := by unfold Hid; rw [htk.out, keep_snoc_no _ _ ht]
            have h1 := bs_nil
            have h2 := bs_nil'
            clear ht hbk
            go_wp2_with fail
            go_roundw
            case rel => exact ⟨k + 1, by omega, by go_num, by rw [hk4.out]; exact hkp3, by rw [hk4.out]; omega, hbk3⟩
            case measure => simp [intOf]; omega
          · have hk4 : Hid (keep (qs.take (k + 1)) = keep (qs.take k) ++ [c :: r]) := by unfold Hid; rw [htk.out, keep_snoc_yes _ _ (by rw [ht]; simp), ht]
            have h1 := bs_ne (c := c) (l := r)
            have h2 := bs_ne' (c := c) (l := r)
            have hb3s := hbk3.size
            clear ht hbk
            go_wp2_with (at_builtin; refine append1 rfl _ _ 45 rfl B2 9 i0 (.string ⟨#[]⟩) 16 Tryz.underlying45 hi hz0 hz1 hz2 rfl hkp3.out rfl (.string (bs (c :: r))) rfl rfl ?_ ?_ ?_ ?_)
            · unfold maxLen; omega
            · omega
            · omega
            intro g4 cap4 w4 hg4 hown4 hb4
            have htx4 : Hid (Texts w4 B2 (.slice (some ⟨g4, 0, none⟩) ((keep (qs.take k)).length + 1) cap4) (keep (qs.take k) ++ [c :: r])) := texts_snoc hown4
            clear hown4
            have hbk4 := hbk3.trans hb4
            go_wp2_with fail
            go_roundw
            case rel => exact ⟨k + 1, by omega, by go_num, by rw [hk4.out]; exact htx4, by rw [hk4.out, List.length_append, List.length_singleton]; omega, hbk4⟩
            case measure => simp [intOf]; omega
        · obtain rfl : k = qs.length := by omega
          have hfin : Hid (∀ v, Texts wr B2 v (keep (qs.take qs.length)) → Texts wr B v (listL R)) := by
            intro v this
            rw [List.take_of_length_le (Nat.le_refl _)] at this
            rw [hr2.out]
            exact own_mono this hB2B
          have hE0 : Hid (listE R = 0) := by rw [hr2.out]; rfl
          go_wp2_with fail
          go_ret2
          exact HE.out (by rw [hE0.out]; rfl) (hfin.out _ hkp.out) (hbw.trans (hbk.mono hB2B))
end Go.Proofs.YtnodboggemggmaaGreatDoor
