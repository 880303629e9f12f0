/- Contracts of span: are all spans a body's; spans printed as a range header. -/
import Derived.Test.YtnodboggemggmaaDoorPrintsP
import Derived.Test.YtnodboggemggmaaDoorTell
import Derived.Test.YtnodboggemggmaaDoorSpanE
namespace Go.Proofs.YtnodboggemggmaaDoor
open Go Go.RowKit
set_option maxHeartbeats 2000000

theorem areO_take {l : List (Int × Int)} {size : Int} {k : Nat} (h : k < l.length) : areO (l.take (k + 1)) size = (areO (l.take k) size && isO l[k].1 l[k].2 size) := by
  unfold areO
  rw [List.take_succ_eq_append_getElem h, List.all_append]; simp
theorem areO_no {l : List (Int × Int)} {size : Int} {k : Nat} (h : k < l.length) (hf : isO l[k].1 l[k].2 size = false) : areO l size = false := by
  cases hq : areO l size
  · rfl
  · have := List.all_eq_true.1 hq l[k] (List.getElem_mem h)
    rw [this] at hf; exact absurd hf (by decide)
theorem areO_at {l : List (Int × Int)} {size : Int} {k : Nat} (h : k < l.length) (ha : areO l size = true) : 0 ≤ l[k].1 ∧ l[k].1 < l[k].2 ∧ l[k].2 ≤ size :=
  of_decide_eq_true (List.all_eq_true.1 ha l[k] (List.getElem_mem h))

set_option maxRecDepth 100000 in
theorem areSpans_any (v : Value) (l : List (Int × Int)) (size : Int) (w : World) (h : SpanSl w v l) (nl : l.length ≤ maxLen) :
    Calls Tryd.prog 61 #[v, .int .i64 size] w fun e w' => e = .returned (.bool (decide (l ≠ [] ∧ areO l size = true))) ∧ Below w.heap.size w w' := by
  obtain ⟨R, hR⟩ := name_it (decide (l ≠ [] ∧ areO l size = true))
  rw [hR.out]
  obtain ⟨a, cap, rfl, hc⟩ := h
  have HA := Lib.hid hc
  clear hc
  unfold maxLen at nl
  go_enter Tryd.func61, Tryd.ntmps61
  go_wp2_with fail
  go_loopw [9] (fun i wr => ∃ k : Nat, k ≤ l.length ∧ i = .int .i64 k ∧ Hid (areO (l.take k) size = true) ∧ Below w.heap.size w wr) (fun i _ => l.length - (intOf i).toNat)
  case atStart => exact ⟨0, Nat.zero_le _, rfl, rfl, Below.refl _ _⟩
  case round =>
    obtain ⟨k, hk, rfl, ht, hbr⟩ := hrel
    by_cases hlt : k < l.length
    · obtain ⟨ga, oa, rfl, hga, ha1, ha2⟩ := HA.out k hlt
      obtain ⟨p1, hp1⟩ := name_it l[k].1
      obtain ⟨p2, hp2⟩ := name_it l[k].2
      obtain ⟨b, hb⟩ := name_it (isO p1 p2 size)
      have hstep : Hid (areO (l.take (k + 1)) size = b) := by
        unfold Hid; rw [areO_take hlt, ht.out, hp1.out, hp2.out, hb.out]; rfl
      have hno : Hid (b = false → R = false) := by
        intro hbf
        rw [← hR.out]
        refine decide_eq_false (fun hh => ?_)
        rw [areO_no hlt (by rw [hp1.out, hp2.out, hb.out]; exact hbf)] at hh
        exact absurd hh.2 (by decide)
      rw [hp1.out] at ha1; rw [hp2.out] at ha2
      rw [← hbr.cell (p := ⟨ga, _, none⟩) hga] at ha1 ha2
      clear ht
      go_wp2_with fail
      refine (isSpan_any p1 p2 size _).mono ?_; rintro e w1 ⟨rfl, hb1⟩
      rw [hb.out]
      have d0 := hbr.alloc hbr.size (.cells #[.int .i64 p1, .int .i64 p2] 33)
      have d1 := d0.trans (hb1.mono d0.size)
      clear hb hb1 d0
      cases b
      · have hf : Hid (R = false) := hno.out rfl
        go_wp2_with fail
        go_ret
        exact ⟨ret_bool hf.out.symm, d1⟩
      · go_wp2_with fail
        go_roundw
        case rel => exact ⟨k + 1, by omega, by go_num, hstep, d1⟩
        case measure => simp [intOf]; omega
    · obtain rfl : k = l.length := by omega
      have hf : Hid (R = decide (0 < l.length)) := by
        rw [← hR.out]
        have := ht.out
        rw [List.take_length] at this
        unfold Hid
        rw [this]
        cases l <;> simp
      by_cases hz : 0 < l.length
      · rw [decide_eq_true hz] at hf
        go_wp2_with fail
        all_goals (try (exfalso; omega))
        go_ret
        exact ⟨ret_bool (by rw [hf.out]), hbr⟩
      · rw [decide_eq_false hz] at hf
        go_wp2_with fail
        all_goals (try (exfalso; omega))
        go_ret
        exact ⟨ret_bool (by rw [hf.out]), hbr⟩

def printV (l : List (Int × Int)) (size : Int) : Value := .tuple #[.string (printT l size), .int .i64 (printE l size)]
theorem bytesL_le (a b : Int) (h0 : 0 ≤ a) (h1 : a < b) (h2 : b ≤ 9223372036854775807) : (bytesL a b).length ≤ 45 := by
  have l1 := Lib.itoa_length_le a (by omega) (by omega)
  have l2 := Lib.itoa_length_le (b - 1) (by omega) (by omega)
  unfold bytesL
  simp; omega
theorem joinTail_le : ∀ (r : List (List UInt8)), (∀ x, x ∈ r → x.length ≤ 45) → (Lib.joinTail [44] r).length ≤ 46 * r.length
  | [], _ => by simp [Lib.joinTail]
  | x :: r, h => by
    have e : Lib.joinTail [44] (x :: r) = 44 :: (x ++ Lib.joinTail [44] r) := by simp [Lib.joinTail]
    have := joinTail_le r (fun y hy => h y (List.mem_cons_of_mem _ hy))
    have := h x (List.mem_cons_self ..)
    rw [e, List.length_cons, List.length_append, List.length_cons]; omega
theorem join_le (r : List (List UInt8)) (h : ∀ x, x ∈ r → x.length ≤ 45) : (Lib.join r [44]).length ≤ 46 * r.length := by
  cases r with
  | nil => simp [Lib.join_nil]
  | cons x r =>
    have := joinTail_le r (fun y hy => h y (List.mem_cons_of_mem _ hy))
    have := h x (List.mem_cons_self ..)
    rw [Lib.join_cons, List.length_append, List.length_cons]; omega
def piecesB (l : List (Int × Int)) : List (List UInt8) := l.map fun x => bytesL x.1 x.2
theorem piecesB_take {l : List (Int × Int)} {k : Nat} (h : k < l.length) : piecesB (l.take (k + 1)) = piecesB (l.take k) ++ [bytesL l[k].1 l[k].2] := by
  unfold piecesB; rw [List.take_succ_eq_append_getElem h, List.map_append]; rfl
theorem piecesB_le {l : List (Int × Int)} {size : Int} (ha : areO l size = true) (hz : size ≤ 9223372036854775807) : ∀ x, x ∈ piecesB l → x.length ≤ 45 := by
  intro x hx
  obtain ⟨y, hy, rfl⟩ := List.mem_map.1 hx
  have := of_decide_eq_true (List.all_eq_true.1 ha y hy)
  exact bytesL_le _ _ this.1 this.2.1 (by omega)

theorem texts_cap {w : World} {b n cap : Nat} {a : Addr} {xs : List (List UInt8)} (h : Texts w b (.slice (some a) n cap) xs) (hn : 0 < xs.length) : xs.length ≤ cap := by
  rcases h.2 with ⟨_, h0⟩ | ⟨g, cap', cur, hv, _, _, hc, _⟩
  · omega
  · injection hv with _ _ h3
    subst h3
    exact hc

set_option maxRecDepth 100000 in
theorem print_any (v : Value) (l : List (Int × Int)) (size : Int) (w : World) (hE : EnvP w) (h : SpanSl w v l) (nl : l.length ≤ 1048576) (hz : size ≤ 9223372036854775807) :
    Calls Tryd.prog 31 #[v, .int .i64 size] w fun e w' => e = .returned (printV l size) ∧ Below w.heap.size w w' := by
  have HE := Lib.hid hE; clear hE
  obtain ⟨V, hV⟩ := name_it (printV l size)
  rw [hV.out]
  have hS := Lib.hid h
  by_cases h0 : size < 0
  · have hf : Hid (V = .tuple #[.string ⟨#[]⟩, .int .i64 1]) := by
      have e : printE l size = 1 := by unfold printE; rw [if_pos h0]
      rw [← hV.out]; unfold Hid printV printT; rw [e]; rfl
    clear h hS
    go_enter Tryd.func31, Tryd.ntmps31
    go_wp2_with fail
    all_goals (try (exfalso; omega))
    go_ret2
    exact ⟨by rw [hf.out]; rfl, Below.refl _ _⟩
  · have hB := areSpans_any v l size w h (by unfold maxLen; omega)
    obtain ⟨b, hb⟩ := name_it (decide (l ≠ [] ∧ areO l size = true))
    rw [hb.out] at hB
    have HB := Lib.hid hB
    clear hB
    cases b
    · have hf : Hid (V = .tuple #[.string ⟨#[]⟩, .int .i64 91]) := by
        have e : printE l size = 91 := by
          unfold printE; rw [if_neg h0, if_pos]
          have := of_decide_eq_false hb.out
          by_cases hl : l = []
          · exact Or.inl hl
          · right
            cases hq : areO l size
            · rfl
            · exact absurd ⟨hl, hq⟩ this
        rw [← hV.out]; unfold Hid printV printT; rw [e]; rfl
      clear h hS
      go_enter Tryd.func31, Tryd.ntmps31
      go_wp2_with fail
      all_goals (try (exfalso; omega))
      refine HB.out.mono ?_; rintro e w1 ⟨rfl, hb1⟩
      go_wp2_with fail
      go_ret2
      exact ⟨by rw [hf.out]; rfl, hb1⟩
    · have hok := of_decide_eq_true hb.out
      have hle := join_le (piecesB l) (piecesB_le hok.2 hz)
      rw [show (piecesB l).length = l.length by unfold piecesB; simp] at hle
      obtain ⟨J, hJ⟩ := name_it (Lib.join (piecesB l) [44])
      rw [hJ.out] at hle
      have hf : Hid (V = .tuple #[.string (bs ([98, 121, 116, 101, 115, 61] ++ J)), .int .i64 0]) := by
        have e : printE l size = 0 := by
          unfold printE; rw [if_neg h0, if_neg (fun hh => hh.elim hok.1 (fun hq => by rw [hok.2] at hq; exact absurd hq (by decide)))]
        rw [← hV.out]; unfold Hid printV printT; rw [e, ← hJ.out]; rfl
      have HOK := Lib.hid hok.2
      have hpos : 0 < l.length := by
        have := hok.1
        cases l with | nil => exact absurd rfl this | cons _ _ => simp
      clear hok hb hV
      go_enter Tryd.func31, Tryd.ntmps31
      go_wp2_with fail
      all_goals (try (exfalso; omega))
      refine HB.out.mono ?_; rintro e w1 ⟨rfl, hb1⟩
      obtain ⟨a, cap, rfl, hc⟩ := spanSl_keep h hb1
      have HA := Lib.hid hc
      have HE1 := Lib.hid (HE.out.next hb1)
      clear hc h hS HE HB
      obtain ⟨i0, hi, hz0, hz1, hz2⟩ := info_parts infoString
      obtain ⟨B, hBd⟩ : ∃ B, Hid (B = w1.heap.size) := ⟨_, rfl⟩
      have hBw : B ≤ w1.heap.size := by rw [hBd.out]; exact Nat.le_refl _
      have hwB : w.heap.size ≤ B := by rw [hBd.out]; exact hb1.size
      have hB2 : w1.heap.size ≤ B := by rw [hBd.out]; exact Nat.le_refl _
      go_wp2_with fail
      go_loopw [6, 19] (fun out i wr => ∃ (k : Nat), k ≤ l.length ∧ i = .int .i64 k ∧ Hid (Texts wr B out (piecesB (l.take k))) ∧ Below B w1 wr) (fun _ i _ => l.length - (intOf i).toNat)
      case atStart => exact ⟨0, Nat.zero_le _, rfl, World.ownsRow_nil _ _ _ _, Below.refl _ _⟩
      case round =>
        obtain ⟨k, hk, rfl, htx, hbr⟩ := hrel
        have hBr := Nat.le_trans hBw hbr.size
        have hlen : (piecesB (l.take k)).length = k := by unfold piecesB; simp; omega
        by_cases hlt : k < l.length
        · obtain ⟨ga, oa, rfl, hga, ha1, ha2⟩ := HA.out k hlt
          have hO := areO_at hlt HOK.out
          have hst := piecesB_take hlt
          obtain ⟨p1, hp1⟩ := name_it l[k].1
          obtain ⟨p2, hp2⟩ := name_it l[k].2
          rw [hp1.out] at ha1 hO hst; rw [hp2.out] at ha2 hO hst
          have hgB : ga < B := Nat.lt_of_lt_of_le hga hB2
          rw [← hbr.cell (p := ⟨ga, _, none⟩) hgB] at ha1 ha2
          have HST := Lib.hid hst
          clear hst
          have HEr := Lib.hid ((HE1.out.next (hbr.mono hB2)).alloc (.cells #[.int .i64 p1, .int .i64 p2] 33))
          have hb2' := hbr.alloc hBr (.cells #[.int .i64 p1, .int .i64 p2] 33)
          have htx2 : Hid (Texts (wr.alloc (.cells #[.int .i64 p1, .int .i64 p2] 33)) B _ (piecesB (l.take k))) := htx.out.alloc _
          go_wp2_with fail
          refine (bytesOf_any p1 p2 hO.1 hO.2.1 (by omega) _ HEr.out).mono ?_; rintro e w2 ⟨rfl, hb2⟩
          have htx3 : Hid (Texts w2 B _ (piecesB (l.take k))) := own_keep htx2.out hb2 (Nat.le_refl _)
          have d2 := hb2'.trans (hb2.mono (Nat.le_trans hBw hb2'.size))
          have hB6 := Nat.le_trans hBw d2.size
          clear htx htx2 hb2 hb2'
          go_wp2_with (at_builtin; refine append1 rfl _ _ 77 rfl B 9 i0 (.string ⟨#[]⟩) 16 Tryd.underlying77 hi hz0 hz1 hz2 rfl htx3.out rfl (.string (bs (bytesL p1 p2))) rfl rfl ?_ ?_ ?_ ?_)
          · unfold maxLen; omega
          · omega
          · exact hB6
          intro g7 cap7 w7 hg7 hown7 hb7
          have hrow7 : Hid (Texts w7 B (.slice (some ⟨g7, 0, none⟩) (k + 1) cap7) (piecesB (l.take (k + 1)))) := by
            have h8 := texts_snoc (x := bytesL p1 p2) (xs := piecesB (l.take k)) (by rw [hlen]; exact hown7)
            unfold Hid; rw [HST.out]; exact h8
          have d7 := d2.trans hb7
          clear hown7
          go_wp2_with fail
          go_roundw
          case rel => exact ⟨k + 1, by omega, by go_num, hrow7, d7⟩
          case measure => simp [intOf]; omega
        · obtain rfl : k = l.length := by omega
          have hlen2 : (piecesB l).length = l.length := by unfold piecesB; simp
          have htx2 := htx.out
          rw [List.take_length] at htx2
          obtain ⟨gr, cap2, hv, hgl, hbg, hcells⟩ := texts_cells htx2 (by omega)
          subst hv
          have hjoin := Tryd.strings_Join gr 0 cap2 ((piecesB l).map bs) ⟨#[44]⟩ wr
            (by
              intro j x hx
              obtain ⟨hj, hx2⟩ := List.getElem?_eq_some_iff.1 hx
              rw [List.length_map] at hj
              rw [Nat.zero_add, hcells j hj]
              rw [← hx2]; simp)
            hgl (by rw [List.length_map]; omega)
            (by rw [List.length_map]; exact texts_cap htx2 (by omega))
            (by
              have e : ((piecesB l).map bs).map (·.data.toList) = piecesB l := by rw [List.map_map]; exact List.map_id _
              rw [e]; show (Lib.join (piecesB l) [44]).length ≤ _; rw [hJ.out]; omega)
          have e1 : ((piecesB l).map bs).map (·.data.toList) = piecesB l := by rw [List.map_map]; exact List.map_id _
          rw [e1, List.length_map, hlen2] at hjoin
          have hj2 : (⟨(Lib.join (piecesB l) (⟨#[44]⟩ : ByteArray).data.toList).toArray⟩ : ByteArray) = bs J := by rw [← hJ.out]; rfl
          rw [hj2] at hjoin
          have HJ := Lib.hid hjoin
          have hbw := hb1.trans (hbr.mono hwB)
          have hcat : (⟨#[98, 121, 116, 101, 115, 61]⟩ : ByteArray) ++ bs J = bs ([98, 121, 116, 101, 115, 61] ++ J) := bs_append [98, 121, 116, 101, 115, 61] J
          have HCAT := Lib.hid hcat
          have hsz : (bs J).size ≤ 48234496 := by rw [size_bs]; omega
          clear hjoin htx htx2 hcells hcat
          go_wp2_with fail
          refine HJ.out.mono ?_; rintro e w3 ⟨rfl, hb3⟩
          have d3 := hbw.trans (hb3.mono hbw.size)
          go_wp2_with fail
          all_goals (try (exfalso; omega))
          go_ret2
          exact ⟨by rw [hf.out, ← HCAT.out]; rfl, d3⟩
end Go.Proofs.YtnodboggemggmaaDoor
