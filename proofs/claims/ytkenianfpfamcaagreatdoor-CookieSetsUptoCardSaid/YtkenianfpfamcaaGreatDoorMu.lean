/- Contract of the document's attribute: the cookie behind one attribute more. Contract of the document's ParseSet: what a server sets. The law's CookieSets. -/
import Derived.Test.YtkenianfpfamcaaGreatDoorMr
import Derived.Test.YtkenianfpfamcaaGreatDoorMh
import Derived.Deep.DeepCutAuto
import Derived.Deep.CutBlock
import Derived.Test.YtkenianfpfamcaaGreatDoorMq
import Derived.Test.YtkenianfpfamcaaGreatDoorMp
import Derived.Deep.RegionHeld3
import Derived.Test.YtkenianfpfamcaaGreatDoorMo
import Derived.Test.YtkenianfpfamcaaGreatDoorMs
namespace Go.Proofs.YtkenianfpfamcaaGreatDoor
open Go Go.RowKit
set_option maxHeartbeats 8000000

/-- a cookie's block and the block of what is handed back -/
structure Both (w : World) (b r : Nat) (c : SetC) (wx : World) : Prop where
  k : CellsAt wx b (cellsS c)
  z : CellsAt wx r (cellsS zS)
  bl : Below w.heap.size w wx
  ne : b ≠ r
  ge : w.heap.size ≤ b
theorem Both.next {w wx wy : World} {b r : Nat} {c : SetC} (h : Both w b r c wx) (hb : Below wx.heap.size wx wy) : Both w b r c wy :=
  ⟨h.k.next hb, h.z.next hb, h.bl.trans (hb.mono h.bl.size), h.ne, h.ge⟩
theorem Both.set {w wx : World} {b r : Nat} {c c' : SetC} (h : Both w b r c wx) (j : Nat) (v : Value) (hj : j < 11) (e : (cellsS c).set j v = cellsS c') : Both w b r c' (wx.setCell ⟨b, j, none⟩ v) :=
  ⟨e ▸ h.k.set j hj v, h.z.other h.ne j v, below_set h.bl h.ge, h.ne, h.ge⟩
def sameK (X : List UInt8) (k : Nat) : Int := if X = wLax ∧ 0 < k then 1 else if X = wStrict ∧ 1 < k then 2 else if X = wNone ∧ 2 < k then 3 else 0
theorem sameK_end (X : List UInt8) : sameK X 3 = sameC X := by unfold sameK sameC; simp
theorem sameK_zero (X : List UInt8) : sameK X 0 = 0 := by unfold sameK; simp
theorem lax_strict : wLax ≠ wStrict := by decide
theorem lax_none : wLax ≠ wNone := by decide
theorem strict_none : wStrict ≠ wNone := by decide
def w3 (k : Nat) : List UInt8 := if k = 0 then wLax else if k = 1 then wStrict else wNone
theorem sameK_step (X : List UInt8) (k : Nat) (hk : k < 3) : sameK X (k + 1) = if X = w3 k then ((k : Int) + 1) else sameK X k := by
  have h1 := lax_strict
  have h2 := lax_none
  have h3 := strict_none
  have g1 := h1.symm
  have g2 := h2.symm
  have g3 := h3.symm
  have hc : X = wLax ∨ X = wStrict ∨ X = wNone ∨ (X ≠ wLax ∧ X ≠ wStrict ∧ X ≠ wNone) := by
    by_cases e : X = wLax
    · exact Or.inl e
    · by_cases e2 : X = wStrict
      · exact Or.inr (Or.inl e2)
      · by_cases e3 : X = wNone
        · exact Or.inr (Or.inr (Or.inl e3))
        · exact Or.inr (Or.inr (Or.inr ⟨e, e2, e3⟩))
  match k, hk with
  | 0, _ => unfold sameK w3; rcases hc with rfl | rfl | rfl | ⟨a, b, c⟩ <;> simp [*]
  | 1, _ => unfold sameK w3; rcases hc with rfl | rfl | rfl | ⟨a, b, c⟩ <;> simp [*]
  | 2, _ => unfold sameK w3; rcases hc with rfl | rfl | rfl | ⟨a, b, c⟩ <;> simp [*]
def arr3 : List Value := [.string ⟨#[108, 97, 120]⟩, .string ⟨#[115, 116, 114, 105, 99, 116]⟩, .string ⟨#[110, 111, 110, 101]⟩]
theorem arr3_get (k : Nat) (hk : k < 3) : arr3[k]? = some (.string (bs (w3 k))) := by
  match k, hk with
  | 0, _ => rfl
  | 1, _ => rfl
  | 2, _ => rfl
set_option maxRecDepth 100000 in
theorem rattribute_any (c : SetC) (word v : ByteArray) (now : Int) (w : World) (hw : word.size ≤ 1073741824) (hv : v.size ≤ 1073741824) :
    Calls Tryz.prog 59 #[.agg (cellsS c).toArray, .string word, .string v, .int .i64 now] w fun e w' => e = .returned (.agg (cellsS (attrC now c ((L word).map lowerB) (L v))).toArray) ∧ Below w.heap.size w w' := by
  have KA := CellsAt.first w (cellsS c) tRS
  have BA := below_put2 (w := w) (cs := (cellsS c).toArray) (T := tRS)
  have hsz : (w.alloc (.cells (cellsS c).toArray tRS)).heap.size = w.heap.size + 1 := by
    show (w.heap.push _).size = _
    rw [Array.size_push]
  have KZ := CellsAt.first (w.alloc (.cells (cellsS c).toArray tRS)) (cellsS zS) tRS
  have BZ := (Below.refl (w.alloc (.cells (cellsS c).toArray tRS)).heap.size _).alloc (Nat.le_refl _) (.cells (cellsS zS).toArray tRS)
  rw [hsz] at KZ
  have TWO : Hid (Both w w.heap.size (w.heap.size + 1) c ((w.alloc (.cells (cellsS c).toArray tRS)).alloc (.cells (cellsS zS).toArray tRS))) := ⟨KA.next BZ, KZ, BA.trans (BZ.mono BA.size), by omega, Nat.le_refl _⟩
  have HLW := Lib.hid (fun wx => rlower_any word wx (by unfold maxLen; omega))
  have HLV := Lib.hid (fun wx => rlower_any v wx (by unfold maxLen; omega))
  have HPA := Lib.hid (fun wx => rparse_any v now wx (by omega))
  have HAG := Lib.hid (fun wx => rage_any v wx (by unfold maxLen; omega))
  have HIP := Lib.hid (fun wx => rispath_any v wx (by unfold maxLen; omega))
  have hR : Stm.parseP (L v) (isMom now) (nowY now) = expC now (L v) := rfl
  rw [hR] at HPA
  obtain ⟨W, hW⟩ := name_it (lower (L word))
  rw [hW.out] at HLW
  have hW2 : (L word).map lowerB = W := hW.out
  rw [hW2]
  have hll := lower_length (L v)
  rw [L_length] at hll
  obtain ⟨X, hX⟩ := name_it (lower (L v))
  rw [hX.out] at HLV hll
  have HXV : Hid ((L v).map lowerB = X) := hX.out
  obtain ⟨C', hC'⟩ := name_it (attrC now c W (L v))
  have HC : Hid (attrC now c W (L v) = C') := hC'
  rw [hC'.out]
  clear KA BA hsz KZ BZ hR hW hW2 hX hC'
  have e0 : ((bs W).toList == [101, 120, 112, 105, 114, 101, 115]) = decide (W = wExpires) := by rw [toList_L, L_bs, Bool.eq_iff_iff, beq_iff_eq, decide_eq_true_eq]; rfl
  have e1 : ((bs W).toList == [109, 97, 120, 45, 97, 103, 101]) = decide (W = wMaxAge) := by rw [toList_L, L_bs, Bool.eq_iff_iff, beq_iff_eq, decide_eq_true_eq]; rfl
  have e2 : ((bs W).toList == [100, 111, 109, 97, 105, 110]) = decide (W = wDomain) := by rw [toList_L, L_bs, Bool.eq_iff_iff, beq_iff_eq, decide_eq_true_eq]; rfl
  have e3 : ((bs W).toList == [112, 97, 116, 104]) = decide (W = wPath) := by rw [toList_L, L_bs, Bool.eq_iff_iff, beq_iff_eq, decide_eq_true_eq]; rfl
  have e4 : ((bs W).toList == [115, 101, 99, 117, 114, 101]) = decide (W = wSecure) := by rw [toList_L, L_bs, Bool.eq_iff_iff, beq_iff_eq, decide_eq_true_eq]; rfl
  have e5 : ((bs W).toList == [104, 116, 116, 112, 111, 110, 108, 121]) = decide (W = wHttp) := by rw [toList_L, L_bs, Bool.eq_iff_iff, beq_iff_eq, decide_eq_true_eq]; rfl
  have e6 : ((bs W).toList == [115, 97, 109, 101, 115, 105, 116, 101]) = decide (W = wSame) := by rw [toList_L, L_bs, Bool.eq_iff_iff, beq_iff_eq, decide_eq_true_eq]; rfl
  unfold attrC at HC
  rw [show (Ending.returned (.agg (cellsS C').toArray) : Ending) = .returned (.agg (cellsS C').toArray) from rfl]
  go_enter Tryz.func59, Tryz.ntmps59
  go_upto_region 1 with fail
  have TWO : Hid (Both w w.heap.size (w.heap.size + 1) c ((w.alloc (.cells (cellsS c).toArray tRS)).alloc (.cells #[.string ⟨#[]⟩, .string ⟨#[]⟩, .string ⟨#[]⟩, .string ⟨#[]⟩, .int .i64 0, .bool false, .int .i64 0, .bool false, .bool false, .bool false, .int .i64 0] tRS))) := TWO
  obtain ⟨w1, hw1⟩ := name_it ((w.alloc (.cells (cellsS c).toArray tRS)).alloc (.cells #[.string ⟨#[]⟩, .string ⟨#[]⟩, .string ⟨#[]⟩, .string ⟨#[]⟩, .int .i64 0, .bool false, .int .i64 0, .bool false, .bool false, .bool false, .int .i64 0] tRS))
  unfold cellsS at hw1 TWO ⊢
  rw [hw1.out] at TWO
  have hw2 := hw1.out
  rw [hw2]
  clear hw1 hw2
  have TWO : Hid (Both w w.heap.size (w.heap.size + 1) c w1) := TWO
  obtain ⟨b, hb⟩ := name_it w.heap.size
  have hb2 : Hid (b = w.heap.size) := hb.out.symm
  have hr1 : w.heap.size + 1 = b + 1 := by rw [hb.out]
  rw [hr1, hb.out] at TWO
  rw [hr1]
  rw [hb.out]
  obtain ⟨r, hr⟩ := name_it (b + 1)
  have HR2 : Hid (r = b + 1) := hr.out.symm
  have HB2 := hb2
  rw [hr.out] at TWO ⊢
  clear hr1 hb hr hb2
  go_wp2_with fail
  refine (HLW.out _).mono ?_; rintro e w2 ⟨rfl, hb2⟩
  have T2 := Lib.hid (TWO.out.next hb2)
  clear TWO HLW hb2
  go_upto_block 0 with fail
  go_cut [] (fun wx => Hid (Both w b r C' wx))
  case first =>
    by_cases g0 : W = wExpires
    · rw [decide_eq_true g0] at e0
      rw [if_pos g0] at HC
      clear g0 e1 e2 e3 e4 e5 e6
      obtain ⟨R, hR⟩ := name_it (expC now (L v))
      rw [hR.out] at HPA HC
      obtain ⟨m, f, er, at_⟩ := R
      unfold parseV at HPA
      simp only at HPA HC
      clear hR
      by_cases he : er = 0
      · subst he
        rw [if_pos rfl] at HC
        go_wp2_with fail
        refine (HPA.out _).mono ?_; rintro e w3 ⟨rfl, hb3⟩
        have T3 := Lib.hid (T2.out.next hb3)
        have z6 := T3.out.k.at 6 _ rfl
        have y6 := T3.out.k.free 6
        have T4 := Lib.hid (T3.out.set (c' := { c with expires := m }) 6 (.int .i64 m) (by decide) rfl)
        have z7 := T4.out.k.at 7 _ rfl
        have y7 := T4.out.k.free 7
        have T5 := Lib.hid (T4.out.set (c' := { c with expires := m, hasExp := true }) 7 (.bool true) (by decide) rfl)
        clear hb3 T2 T3 T4
        go_wp2_with fail
        go_meet
        case rel => rw [← HC.out]; exact T5
      · rw [if_neg he] at HC
        have he2 : (er == 0) = false := by simpa using he
        go_wp2_with fail
        refine (HPA.out _).mono ?_; rintro e w3 ⟨rfl, hb3⟩
        have T5 := Lib.hid (T2.out.next hb3)
        clear hb3 T2
        go_wp2_with fail
        go_meet
        case rel => rw [← HC.out]; exact T5
    rw [decide_eq_false g0] at e0
    rw [if_neg g0] at HC
    by_cases g1 : W = wMaxAge
    · rw [decide_eq_true g1] at e1
      rw [if_pos g1] at HC
      clear g0 g1 e2 e3 e4 e5 e6
      obtain ⟨R, hR⟩ := name_it (ageC (L v))
      rw [hR.out] at HAG HC
      clear hR
      cases R with
      | none =>
        unfold ageV at HAG
        simp only at HC HAG
        go_wp2_with fail
        refine (HAG.out _).mono ?_; rintro e w3 ⟨rfl, rfl⟩
        have T5 := T2
        clear T2
        go_wp2_with fail
        go_meet
        case rel => rw [← HC.out]; exact T5
      | some m =>
        unfold ageV at HAG
        simp only at HC HAG
        have z4 := T2.out.k.at 4 _ rfl
        have y4 := T2.out.k.free 4
        have T4 := Lib.hid (T2.out.set (c' := { c with maxAge := m }) 4 (.int .i64 m) (by decide) rfl)
        have z5 := T4.out.k.at 5 _ rfl
        have y5 := T4.out.k.free 5
        have T5 := Lib.hid (T4.out.set (c' := { c with maxAge := m, hasMax := true }) 5 (.bool true) (by decide) rfl)
        clear T2 T4
        go_wp2_with fail
        refine (HAG.out _).mono ?_; rintro e w3 ⟨rfl, rfl⟩
        go_wp2_with fail
        go_meet
        case rel => rw [← HC.out]; exact T5
    rw [decide_eq_false g1] at e1
    rw [if_neg g1] at HC
    by_cases g2 : W = wDomain
    · rw [decide_eq_true g2] at e2
      rw [if_pos g2] at HC
      clear g0 g1 g2 e3 e4 e5 e6
      rw [HXV.out] at HC
      have hE := empty_iff X
      have hul := undot_le X
      have HUD : Hid (undot X = if decide (X.head? = some 46) = true then X.drop 1 else X) := by
        unfold Hid undot
        by_cases h : X.head? = some 46 <;> simp [h]
      obtain ⟨D, hD⟩ := name_it (decide (X.head? = some 46))
      rw [hD.out] at HUD
      have HDS : Hid (bs (undot X) = if D = true then (bs X).extract 1 (bs X).size else bs X) := by
        unfold Hid
        rw [HUD.out]
        cases D
        · rfl
        · rw [if_pos rfl, if_pos rfl, extract_bs, L_bs]
          have : X.take (bs X).size = X := List.take_of_length_le (by rw [size_bs]; omega)
          rw [this]
      have hsX := size_bs X
      have HI := Lib.hid (fun wx => risdomain_any (bs (undot X)) wx (by unfold maxLen; rw [size_bs]; omega))
      rw [L_bs] at HI
      obtain ⟨Y, hY⟩ := name_it (undot X)
      rw [hY.out] at HDS HI HC
      clear HUD hY
      go_wp2_with fail
      refine (HLV.out _).mono ?_; rintro e w3 ⟨rfl, hb3⟩
      have T3 := Lib.hid (T2.out.next hb3)
      clear T2 hb3
      go_upto_region 14 with fail
      go_cut [56] (fun s wx => s = .bool D ∧ wx = w3)
      case first =>
        by_cases hz : X = []
        · have HF : D = false := by rw [← hD.out, hz]; rfl
          have hE2 : (bs X).toList.isEmpty = true := by rw [hE]; exact decide_eq_true hz
          subst HF
          clear hE hD hz
          go_wp2_with fail
          go_meet
          case rel => exact ⟨rfl, rfl⟩
        · have hp : 0 < (bs X).size := by rw [size_bs]; exact List.length_pos_iff.2 hz
          have hE2 : (bs X).toList.isEmpty = false := by rw [hE]; exact decide_eq_false hz
          have HF : Hid (D = (((bs X)[0].toNat : Int) == 46)) := by
            unfold Hid
            rw [← hD.out]
            have := head_get (bs X) 46 hp
            rw [decide_not, L_bs] at this
            exact Bool.not_inj this
          clear hE hD hz
          go_wp2_with fail
          all_goals (try (exfalso; omega))
          go_meet
          case rel => exact ⟨by rw [HF.out], rfl⟩
      case rest =>
        obtain ⟨rfl, hwc⟩ := hcut
        rw [hwc]
        have hp : D = true → 0 < (bs X).size := by
          intro h
          have h2 := of_decide_eq_true (hD.out.trans h)
          rcases Nat.eq_zero_or_pos X.length with h3 | h3
          · rw [List.eq_nil_of_length_eq_zero h3] at h2; cases h2
          · rw [size_bs]; exact h3
        have HP := Lib.hid hp
        clear hwc hD hE hp
        go_upto_if 56 with fail
        go_cut [15] (fun s wx => s = .string (bs Y) ∧ wx = w3)
        case first =>
          cases D with
          | true =>
            have h1 := HP.out rfl
            have HT : Hid (bs Y = (bs X).extract 1 (bs X).size) := HDS
            clear HDS HP
            go_wp2_with fail
            all_goals (try (exfalso; omega))
            go_meet
            case rel => exact ⟨by rw [HT.out, hsX, hll], rfl⟩
          | false =>
            have HT : Hid (bs Y = bs X) := HDS
            clear HDS HP
            go_wp2_with fail
            go_meet
            case rel => exact ⟨by rw [HT.out], rfl⟩
        case rest =>
          obtain ⟨rfl, hwc⟩ := hcut
          rw [hwc]
          clear hwc HDS HP
          cases hd : domC Y with
          | false =>
            rw [hd] at HI HC
            rw [if_neg (by decide)] at HC
            have T5 := T3
            clear hd T3
            go_wp2_with fail
            refine (HI.out _).mono ?_; rintro e w4 ⟨rfl, rfl⟩
            go_wp2_with fail
            go_meet
            case rel => rw [← HC.out]; exact T5
          | true =>
            rw [hd] at HI HC
            have z3 := T3.out.k.at 3 _ rfl
            have y3 := T3.out.k.free 3
            rw [if_pos rfl] at HC
            have T5 := Lib.hid (T3.out.set (c' := { c with domain := Y }) 3 (.string (bs Y)) (by decide) rfl)
            clear hd T3
            go_wp2_with fail
            refine (HI.out _).mono ?_; rintro e w4 ⟨rfl, rfl⟩
            go_wp2_with fail
            go_meet
            case rel => rw [← HC.out]; exact T5
    rw [decide_eq_false g2] at e2
    rw [if_neg g2] at HC
    by_cases g3 : W = wPath
    · rw [decide_eq_true g3] at e3
      rw [if_pos g3] at HC
      clear g0 g1 g2 g3 e4 e5 e6
      have z2 := T2.out.k.at 2 _ rfl
      have y2 := T2.out.k.free 2
      have T3 := Lib.hid (T2.out.set (c' := { c with path := [] }) 2 (.string ⟨#[]⟩) (by decide) rfl)
      have z2b := T3.out.k.at 2 _ rfl
      have y2b := T3.out.k.free 2
      cases hd : pathC (L v) with
      | false =>
        rw [hd] at HIP HC
        rw [if_neg (by decide)] at HC
        have T5 := T3
        clear hd T3 T2
        go_wp2_with fail
        refine (HIP.out _).mono ?_; rintro e w4 ⟨rfl, rfl⟩
        go_wp2_with fail
        go_meet
        case rel => rw [← HC.out]; exact T5
      | true =>
        rw [hd] at HIP HC
        rw [if_pos rfl] at HC
        have T5 := Lib.hid (T3.out.set (c' := { c with path := L v }) 2 (.string v) (by decide) (by unfold cellsS; simp only [List.set_cons_succ, List.set_cons_zero, bs_L]))
        clear hd T3 T2
        go_wp2_with fail
        refine (HIP.out _).mono ?_; rintro e w4 ⟨rfl, rfl⟩
        go_wp2_with fail
        go_meet
        case rel => rw [← HC.out]; exact T5
    rw [decide_eq_false g3] at e3
    rw [if_neg g3] at HC
    by_cases g4 : W = wSecure
    · rw [decide_eq_true g4] at e4
      rw [if_pos g4] at HC
      clear g0 g1 g2 g3 g4 e5 e6
      have z2 := T2.out.k.at 8 _ rfl
      have y2 := T2.out.k.free 8
      have T5 := Lib.hid (T2.out.set (c' := { c with secure := true }) 8 (.bool true) (by decide) rfl)
      clear T2
      go_wp2_with fail
      go_meet
      case rel => rw [← HC.out]; exact T5
    rw [decide_eq_false g4] at e4
    rw [if_neg g4] at HC
    by_cases g5 : W = wHttp
    · rw [decide_eq_true g5] at e5
      rw [if_pos g5] at HC
      clear g0 g1 g2 g3 g4 g5 e6
      have z2 := T2.out.k.at 9 _ rfl
      have y2 := T2.out.k.free 9
      have T5 := Lib.hid (T2.out.set (c' := { c with http := true }) 9 (.bool true) (by decide) rfl)
      clear T2
      go_wp2_with fail
      go_meet
      case rel => rw [← HC.out]; exact T5
    rw [decide_eq_false g5] at e5
    rw [if_neg g5] at HC
    by_cases g6 : W = wSame
    · rw [decide_eq_true g6] at e6
      rw [if_pos g6] at HC
      clear g0 g1 g2 g3 g4 g5 g6 
      rw [HXV.out] at HC
      have z2 := T2.out.k.at 10 _ rfl
      have y2 := T2.out.k.free 10
      have T3 := Lib.hid (T2.out.set (c' := { c with same := 0 }) 10 (.int .i64 0) (by decide) rfl)
      clear T2
      go_upto_region 28 with fail
      obtain ⟨w3', hw3⟩ := name_it (w2.setCell ⟨b, 10, none⟩ (.int .i64 0))
      rw [hw3.out] at T3 ⊢
      clear hw3 z2 y2
      have A4 := Lib.hid (CellsAt.first w3' arr3 9)
      have B4 := (Below.refl w3'.heap.size w3').alloc (Nat.le_refl _) (.cells arr3.toArray 9)
      have T4 := Lib.hid (T3.out.next B4)
      have NG : Hid (b < w3'.heap.size) := T3.out.k.lt
      have A4 : Hid (CellsAt (w3'.alloc (.cells #[.string ⟨#[108, 97, 120]⟩, .string ⟨#[115, 116, 114, 105, 99, 116]⟩, .string ⟨#[110, 111, 110, 101]⟩] 9)) w3'.heap.size arr3) := A4
      have T4 : Hid (Both w b r { c with same := 0 } (w3'.alloc (.cells #[.string ⟨#[108, 97, 120]⟩, .string ⟨#[115, 116, 114, 105, 99, 116]⟩, .string ⟨#[110, 111, 110, 101]⟩] 9))) := T4
      clear T3 B4
      go_upto_block 1 with fail
      generalize w3'.alloc _ = w4 at A4 T4 ⊢
      obtain ⟨g, hg⟩ := name_it w3'.heap.size
      have NGB : Hid (b ≠ g) := by have := NG.out; rw [hg.out] at this; exact Nat.ne_of_lt this
      rw [hg.out] at A4 ⊢
      have TS : Hid (Both w b r { c with same := sameK X 0 } w4) := by rw [sameK_zero]; exact T4
      have HFIN : Hid ({ c with same := sameK X 3 } = C') := by rw [← HC.out, sameK_end]; rfl
      clear hg NG T4 HC HPA HAG HIP HXV e0 e1 e2 e3 e4 e5 e6
      go_wp2_with fail
      go_loopw [16, 17, 81] (fun _ _ i wr => ∃ k : Nat, k ≤ 3 ∧ i = .int .i64 k ∧ Hid (CellsAt wr g arr3) ∧ Hid (Both w b r { c with same := sameK X k } wr)) (fun _ _ i _ => 3 - (intOf i).toNat)
      case atStart => exact ⟨0, Nat.zero_le _, rfl, A4, TS⟩
      clear A4 TS
      case round =>
        obtain ⟨k, hk, rfl, hA, hT⟩ := hrel
        obtain ⟨wq, hwq⟩ : ∃ wq, wq = wr := ⟨wr, rfl⟩
        subst hwq
        by_cases hlt : k < 3
        · have c0 := hA.out.at k _ (arr3_get k hlt)
          have HST := Lib.hid (sameK_step X k hlt)
          have eqs := str_eq (bs X) (bs (w3 k))
          rw [L_bs, L_bs] at eqs
          obtain ⟨S, hS⟩ := name_it (w3 k)
          rw [hS.out] at c0 HST eqs
          clear hS
          go_wp2_with fail
          all_goals (try (exfalso; omega))
          refine (HLV.out _).mono ?_; rintro e w6 ⟨rfl, hb6⟩
          have A6 := Lib.hid (hA.out.next hb6)
          have T6 := Lib.hid (hT.out.next hb6)
          clear hA hT hb6 c0
          by_cases hx : X = S
          · rw [decide_eq_true hx] at eqs
            rw [if_pos hx] at HST
            have z2 := T6.out.k.at 10 _ rfl
            have y2 := T6.out.k.free 10
            have T7 := Lib.hid (T6.out.set (c' := { c with same := (k : Int) + 1 }) 10 (.int .i64 ((k : Int) + 1)) (by decide) rfl)
            have A7 := Lib.hid (A6.out.other NGB.out 10 (.int .i64 ((k : Int) + 1)))
            clear hx A6 T6
            go_wp2_with fail
            all_goals (try (exfalso; omega))
            go_roundw
            case rel => exact ⟨k + 1, by omega, by go_num, A7, by rw [HST.out]; exact T7⟩
            case measure => simp [intOf]; omega
          · rw [decide_eq_false hx] at eqs
            rw [if_neg hx] at HST
            clear hx
            go_wp2_with fail
            all_goals (try (exfalso; omega))
            go_roundw
            case rel => exact ⟨k + 1, by omega, by go_num, A6, by rw [HST.out]; exact T6⟩
            case measure => simp [intOf]; omega
        · obtain rfl : k = 3 := by omega
          rw [HFIN.out] at hT
          clear HFIN hA
          go_wp2_with fail
          go_meet
          case rel => exact hT
    rw [decide_eq_false g6] at e6
    rw [if_neg g6] at HC
    have T5 := T2
    clear T2
    go_wp2_with fail
    go_meet
    case rel => rw [← HC.out]; exact T5
  case rest =>
    have T5 := hcut
    clear hcut HPA HAG HIP HLV HC HXV e0 e1 e2 e3 e4 e5 e6
    generalize wc = w5 at T5 ⊢
    obtain ⟨n, vv, p, d, ma, hm, ex, he, sc, ht, sm⟩ := C'
    have K5 := T5.out.k
    have Z5 := T5.out.z
    have B5 := T5.out.bl
    unfold cellsS at K5
    simp only at K5
    have HRB : Hid (w.heap.size ≤ r) := by have := HB2.out; have := HR2.out; unfold Hid; omega
    have NE : Hid (r ≠ b) := fun h => T5.out.ne h.symm
    have d0 := K5.at 0 _ rfl
    have d1 := K5.at 1 _ rfl
    have d2 := K5.at 2 _ rfl
    have d3 := K5.at 3 _ rfl
    have d4 := K5.at 4 _ rfl
    have d5 := K5.at 5 _ rfl
    have d6 := K5.at 6 _ rfl
    have d7 := K5.at 7 _ rfl
    have d8 := K5.at 8 _ rfl
    have d9 := K5.at 9 _ rfl
    have d10 := K5.at 10 _ rfl
    have x0 := Z5.at 0 _ rfl
    have x1 := Z5.at 1 _ rfl
    have x2 := Z5.at 2 _ rfl
    have x3 := Z5.at 3 _ rfl
    have x4 := Z5.at 4 _ rfl
    have x5 := Z5.at 5 _ rfl
    have x6 := Z5.at 6 _ rfl
    have x7 := Z5.at 7 _ rfl
    have x8 := Z5.at 8 _ rfl
    have x9 := Z5.at 9 _ rfl
    have x10 := Z5.at 10 _ rfl
    have y0 := Z5.free 0
    have y1 := Z5.free 1
    have y2 := Z5.free 2
    have y3 := Z5.free 3
    have y4 := Z5.free 4
    have y5 := Z5.free 5
    have y6 := Z5.free 6
    have y7 := Z5.free 7
    have y8 := Z5.free 8
    have y9 := Z5.free 9
    have y10 := Z5.free 10
    have KE := Lib.hid (Z5.put [.string (bs n), .string (bs vv), .string (bs p), .string (bs d), .int .i64 ma, .bool hm, .int .i64 ex, .bool he, .bool sc, .bool ht, .int .i64 sm] rfl)
    have DE := Lib.hid (putAll_below [.string (bs n), .string (bs vv), .string (bs p), .string (bs d), .int .i64 ma, .bool hm, .int .i64 ex, .bool he, .bool sc, .bool ht, .int .i64 sm] 0 _ _ B5 HRB.out)
    clear K5 Z5 B5 T5 HRB
    go_wp2_with fail
    rw [put11]
    generalize hw9 : putAll w5 r 0 _ = w9 at *
    have f0 := KE.out.at 0 _ rfl
    have f1 := KE.out.at 1 _ rfl
    have f2 := KE.out.at 2 _ rfl
    have f3 := KE.out.at 3 _ rfl
    have f4 := KE.out.at 4 _ rfl
    have f5 := KE.out.at 5 _ rfl
    have f6 := KE.out.at 6 _ rfl
    have f7 := KE.out.at 7 _ rfl
    have f8 := KE.out.at 8 _ rfl
    have f9 := KE.out.at 9 _ rfl
    have f10 := KE.out.at 10 _ rfl
    refine bodyPost_ret (v := .agg #[.string (bs n), .string (bs vv), .string (bs p), .string (bs d), .int .i64 ma, .bool hm, .int .i64 ex, .bool he, .bool sc, .bool ht, .int .i64 sm]) (by simp [results, Tryz.results59, go_sem, f0, f1, f2, f3, f4, f5, f6, f7, f8, f9, f10]) rfl ?_
    exact ⟨rfl, DE.out⟩
end Go.Proofs.YtkenianfpfamcaaGreatDoor
namespace Go.Proofs.YtkenianfpfamcaaGreatDoor
open Go Go.RowKit
set_option maxHeartbeats 8000000

theorem foldl_none {now : Int} {c : SetC} : ([] : List (List UInt8)).foldl (pieceC now) c = c := rfl
theorem CellsAt.cell_of {w : World} {b : Nat} {c : SetC} (h : CellsAt w b (cellsS c)) : w.cell? ⟨b, 0, none⟩ = some (.string (bs c.name)) ∧ w.cell? ⟨b, 1, none⟩ = some (.string (bs c.value)) ∧ w.cell? ⟨b, 2, none⟩ = some (.string (bs c.path)) ∧ w.cell? ⟨b, 3, none⟩ = some (.string (bs c.domain)) ∧ w.cell? ⟨b, 4, none⟩ = some (.int .i64 c.maxAge) ∧ w.cell? ⟨b, 5, none⟩ = some (.bool c.hasMax) ∧ w.cell? ⟨b, 6, none⟩ = some (.int .i64 c.expires) ∧ w.cell? ⟨b, 7, none⟩ = some (.bool c.hasExp) ∧ w.cell? ⟨b, 8, none⟩ = some (.bool c.secure) ∧ w.cell? ⟨b, 9, none⟩ = some (.bool c.http) ∧ w.cell? ⟨b, 10, none⟩ = some (.int .i64 c.same) :=
  ⟨h.at 0 _ rfl, h.at 1 _ rfl, h.at 2 _ rfl, h.at 3 _ rfl, h.at 4 _ rfl, h.at 5 _ rfl, h.at 6 _ rfl, h.at 7 _ rfl, h.at 8 _ rfl, h.at 9 _ rfl, h.at 10 _ rfl⟩
theorem CellsAt.free_of {w : World} {b : Nat} {c : SetC} (h : CellsAt w b (cellsS c)) : w.frozen? ⟨b, 0, none⟩ = false ∧ w.frozen? ⟨b, 1, none⟩ = false ∧ w.frozen? ⟨b, 2, none⟩ = false ∧ w.frozen? ⟨b, 3, none⟩ = false ∧ w.frozen? ⟨b, 4, none⟩ = false ∧ w.frozen? ⟨b, 5, none⟩ = false ∧ w.frozen? ⟨b, 6, none⟩ = false ∧ w.frozen? ⟨b, 7, none⟩ = false ∧ w.frozen? ⟨b, 8, none⟩ = false ∧ w.frozen? ⟨b, 9, none⟩ = false ∧ w.frozen? ⟨b, 10, none⟩ = false :=
  ⟨h.free 0, h.free 1, h.free 2, h.free 3, h.free 4, h.free 5, h.free 6, h.free 7, h.free 8, h.free 9, h.free 10⟩
set_option maxRecDepth 100000 in
theorem rparseset_any (s : ByteArray) (now : Int) (w : World) (hs : s.size ≤ 1073741824) :
    Calls Tryz.prog 22 #[.string s, .int .i64 now] w fun e w' => e = .returned (setV (parseSetC now (L s))) ∧ Below w.heap.size w w' := by
  obtain ⟨p, ps, hps⟩ : ∃ p ps, splitC 59 (L s) = p :: ps := by
    cases h : splitC 59 (L s) with
    | nil => exact absurd h (splitC_ne _ _)
    | cons p ps => exact ⟨p, ps, rfl⟩
  have hP := parseSet_cons (now := now) hps
  have hall := splitC_each 59 (L s)
  have hlen := splitC_length 59 (L s)
  rw [hps] at hall hlen
  rw [L_length] at hlen hall
  have hp := hall p (List.mem_cons_self ..)
  have HALL := Lib.hid (fun q hq => hall q (List.mem_cons_of_mem _ hq))
  rw [hP]
  obtain ⟨V, hV⟩ := name_it (setV ((pairC p).map fun x => ps.foldl (pieceC now) (freshC x)))
  rw [hV.out]
  have HS : Hid (∀ wx, Calls Tryz.prog 56 #[.string s, .int .u8 59] wx fun e w' => (∃ v, e = .returned v ∧ w'.ownsRow wx.heap.size 9 1 v (splitC 59 (L s)).length ((splitC 59 (L s)).map strV)) ∧ Below wx.heap.size wx w') := fun wx => rcut_any s 59 wx hs
  rw [hps] at HS
  have K1 : Hid (CellsAt (w.alloc (.cells #[.string ⟨#[]⟩, .string ⟨#[]⟩, .string ⟨#[]⟩, .string ⟨#[]⟩, .int .i64 0, .bool false, .int .i64 0, .bool false, .bool false, .bool false, .int .i64 0] tRS)) w.heap.size (cellsS zS)) := CellsAt.first w (cellsS zS) tRS
  have B1 : Hid (Below w.heap.size w (w.alloc (.cells #[.string ⟨#[]⟩, .string ⟨#[]⟩, .string ⟨#[]⟩, .string ⟨#[]⟩, .int .i64 0, .bool false, .int .i64 0, .bool false, .bool false, .bool false, .int .i64 0] tRS))) := below_put2
  clear hP hall hps
  go_enter Tryz.func22, Tryz.ntmps22
  go_wp2_with fail
  generalize w.alloc _ = w1 at K1 B1 ⊢
  refine (HS.out _).mono ?_; rintro e w2 ⟨⟨v, rfl, hrow⟩, hb2⟩
  obtain ⟨so0, co0, hout0⟩ := row_slice hrow
  subst hout0
  obtain ⟨g, rfl, hg1, hg2, hg3⟩ := row_str hrow 0 (by simp)
  have GR : Hid (w1.heap.size ≤ g ∧ g < w2.heap.size) := ⟨hg1, hg2⟩
  have PC : Hid (∀ k (hk : k < (p :: ps).length), w2.cell? ⟨g, k, none⟩ = some (.string (bs (p :: ps)[k]))) := hg3
  have hcap : ps.length + 1 ≤ co0 := by
    rcases hrow.2 with ⟨h, _⟩ | ⟨g', c', cur, hv, _, _, hc, _⟩
    · cases h
    · injection hv with _ _ hv3; subst hv3; exact hc
  have G1 := Lib.hid K1.out.lt
  have K2 := Lib.hid (K1.out.next hb2)
  have D2 := Lib.hid (B1.out.trans (hb2.mono B1.out.size))
  clear K1 B1 HS hb2 hrow hg1 hg2 hg3
  have c0 : w2.cell? ⟨g, 0, none⟩ = some (.string (bs p)) := PC.out 0 (by simp)
  have hn : ((p :: ps).length : Nat) = ps.length + 1 := rfl
  rw [hn]
  go_wp2_with fail
  all_goals (try (exfalso; omega))
  refine (rone_any (bs p) w2 (by rw [size_bs]; omega)).mono ?_; rintro e w3 ⟨rfl, hb3⟩
  rw [L_bs]
  have PC3 : Hid (∀ k (hk : k < (p :: ps).length), w3.cell? ⟨g, k, none⟩ = some (.string (bs (p :: ps)[k]))) := fun k hk => (hb3.cell (p := ⟨g, k, none⟩) GR.out.2).trans (PC.out k hk)
  have K3 := Lib.hid (K2.out.next hb3)
  have D3 := Lib.hid (D2.out.trans (hb3.mono D2.out.size))
  have G3 : Hid (g < w3.heap.size ∧ w.heap.size < w1.heap.size ∧ w1.heap.size ≤ g) := ⟨Nat.lt_of_lt_of_le GR.out.2 hb3.size, G1.out, GR.out.1⟩
  clear K2 D2 hb3 c0 PC GR G1
  cases hpp : pairC p with
  | none =>
    rw [hpp] at hV
    have HV : Hid (setV none = V) := hV
    unfold pairV
    have B4 := below_put2 (w := w3) (cs := #[.string ⟨#[]⟩, .string ⟨#[]⟩]) (T := tRk)
    have K4 := Lib.hid (K3.out.next B4)
    have D4 := Lib.hid (D3.out.trans (B4.mono D3.out.size))
    have z0 := K4.out.at 0 _ rfl
    have z1 := K4.out.at 1 _ rfl
    have z2 := K4.out.at 2 _ rfl
    have z3 := K4.out.at 3 _ rfl
    have z4 := K4.out.at 4 _ rfl
    have z5 := K4.out.at 5 _ rfl
    have z6 := K4.out.at 6 _ rfl
    have z7 := K4.out.at 7 _ rfl
    have z8 := K4.out.at 8 _ rfl
    have z9 := K4.out.at 9 _ rfl
    have z10 := K4.out.at 10 _ rfl
    have y0 := K4.out.free 0
    have y1 := K4.out.free 1
    have y2 := K4.out.free 2
    have y3 := K4.out.free 3
    have y4 := K4.out.free 4
    have y5 := K4.out.free 5
    have y6 := K4.out.free 6
    have y7 := K4.out.free 7
    have y8 := K4.out.free 8
    have y9 := K4.out.free 9
    have y10 := K4.out.free 10
    have KE := Lib.hid (K4.out.put (cellsS zS) rfl)
    have DE := Lib.hid (putAll_below (cellsS zS) 0 _ _ D4.out (Nat.le_refl w.heap.size))
    clear K4 D4 B4 hpp hV K3 D3 PC3 HALL
    go_wp2_with fail
    rw [put11]
    generalize hw9 : putAll _ w.heap.size 0 _ = w9
    have KG : Hid (CellsAt w9 w.heap.size (cellsS zS)) := by rw [← hw9]; exact KE
    have DG : Hid (Below w.heap.size w w9) := by rw [← hw9]; exact DE
    clear z0 z1 z2 z3 z4 z5 z6 z7 z8 z9 z10 y0 y1 y2 y3 y4 y5 y6 y7 y8 y9 y10 KE DE hw9
    have f0 := KG.out.at 0 _ rfl
    have f1 := KG.out.at 1 _ rfl
    have f2 := KG.out.at 2 _ rfl
    have f3 := KG.out.at 3 _ rfl
    have f4 := KG.out.at 4 _ rfl
    have f5 := KG.out.at 5 _ rfl
    have f6 := KG.out.at 6 _ rfl
    have f7 := KG.out.at 7 _ rfl
    have f8 := KG.out.at 8 _ rfl
    have f9 := KG.out.at 9 _ rfl
    have f10 := KG.out.at 10 _ rfl
    refine bodyPost_ret (v := setV none) (by simp [results, Tryz.results22, go_sem, setV, cellsS, zS, freshC, f0, f1, f2, f3, f4, f5, f6, f7, f8, f9, f10]) rfl ?_
    exact ⟨by rw [HV.out], DG.out⟩
  | some x =>
    rw [hpp] at hV
    have HV : Hid (setV (some (ps.foldl (pieceC now) (freshC x))) = V) := hV
    unfold pairV
    have X4 := Lib.hid (CellsAt.first w3 [.string (bs x.1), .string (bs x.2)] tRk)
    have B4 := below_put2 (w := w3) (cs := #[.string (bs x.1), .string (bs x.2)]) (T := tRk)
    have K4 := Lib.hid (K3.out.next B4)
    have D4 := Lib.hid (D3.out.trans (B4.mono D3.out.size))
    have z0 := X4.out.at 0 _ rfl
    have z1 := X4.out.at 1 _ rfl
    have PC4 : Hid (∀ k (hk : k < (p :: ps).length), (w3.alloc (.cells #[.string (bs x.1), .string (bs x.2)] tRk)).cell? ⟨g, k, none⟩ = some (.string (bs (p :: ps)[k]))) := fun k hk => (B4.cell (p := ⟨g, k, none⟩) G3.out.1).trans (PC3.out k hk)
    have S4 : Hid (w3.heap.size ≤ (w3.alloc (.cells #[.string (bs x.1), .string (bs x.2)] tRk)).heap.size) := B4.size
    clear B4 K3 D3 PC3 hpp hV X4
    go_upto_region 5 with fail
    generalize w3.alloc _ = w4 at *
    have C5 := Lib.hid (CellsAt.first w4 (cellsS (freshC x)) tRS)
    have B5 := below_put2 (w := w4) (cs := (cellsS (freshC x)).toArray) (T := tRS)
    have K5 := Lib.hid (K4.out.next B5)
    have D5 := Lib.hid (D4.out.trans (B5.mono D4.out.size))
    have PC5 : Hid (∀ k (hk : k < (p :: ps).length), (w4.alloc (.cells (cellsS (freshC x)).toArray tRS)).cell? ⟨g, k, none⟩ = some (.string (bs (p :: ps)[k]))) := fun k hk => (B5.cell (p := ⟨g, k, none⟩) (Nat.lt_of_lt_of_le G3.out.1 S4.out)).trans (PC4.out k hk)
    have C5 : Hid (CellsAt (w4.alloc (.cells #[.string (bs x.1), .string (bs x.2), .string ⟨#[]⟩, .string ⟨#[]⟩, .int .i64 0, .bool false, .int .i64 0, .bool false, .bool false, .bool false, .int .i64 0] tRS)) w4.heap.size (cellsS (freshC x))) := C5
    have K5 : Hid (CellsAt (w4.alloc (.cells #[.string (bs x.1), .string (bs x.2), .string ⟨#[]⟩, .string ⟨#[]⟩, .int .i64 0, .bool false, .int .i64 0, .bool false, .bool false, .bool false, .int .i64 0] tRS)) w.heap.size (cellsS zS)) := K5
    have D5 : Hid (Below w.heap.size w (w4.alloc (.cells #[.string (bs x.1), .string (bs x.2), .string ⟨#[]⟩, .string ⟨#[]⟩, .int .i64 0, .bool false, .int .i64 0, .bool false, .bool false, .bool false, .int .i64 0] tRS))) := D5
    have PC5 : Hid (∀ k (hk : k < (p :: ps).length), (w4.alloc (.cells #[.string (bs x.1), .string (bs x.2), .string ⟨#[]⟩, .string ⟨#[]⟩, .int .i64 0, .bool false, .int .i64 0, .bool false, .bool false, .bool false, .int .i64 0] tRS)).cell? ⟨g, k, none⟩ = some (.string (bs (p :: ps)[k]))) := PC5
    have GC : Hid (w.heap.size < w4.heap.size ∧ g < w4.heap.size) := ⟨by have := G3.out; have := S4.out; omega, by have := G3.out; have := S4.out; omega⟩
    clear B5 K4 D4 PC4 S4 G3
    go_upto_region 6 with fail
    clear z0 z1
    generalize w4.alloc _ = w6 at C5 K5 D5 PC5 ⊢
    have GL : Hid (w4.heap.size < w6.heap.size) := C5.out.lt
    obtain ⟨cb, hcb⟩ := name_it w4.heap.size
    rw [hcb.out] at C5 GC GL ⊢
    clear hcb
    obtain ⟨c0, hc0⟩ := name_it (freshC x)
    rw [hc0.out] at C5 HV
    clear hc0
    have hnb : ps.length ≤ 1073741825 := by simp at hlen ⊢; omega
    obtain ⟨nl, hnl⟩ := name_it ps.length
    have HNL : Hid (ps.length = nl) := hnl
    rw [hnl.out] at hnb hcap ⊢
    clear hlen hn hnl
    go_cut [33, 34, 35] (fun s n i wx => (∃ o cx, s = .slice (some ⟨g, o, none⟩) nl cx ∧ Hid (0 < nl → o = 1)) ∧ n = .int .i64 nl ∧ i = .int .i64 0 ∧ wx = w6)
    case first =>
      clear HV HALL HNL PC5 C5 K5 D5
      by_cases hc1 : co0 = 1
      · subst hc1
        obtain rfl : nl = 0 := by omega
        go_wp2_with fail
        all_goals (try (exfalso; omega))
        go_meet
        case rel => exact ⟨⟨_, _, rfl, fun h => by omega⟩, rfl, rfl, rfl⟩
      · go_wp2_with fail
        all_goals (try (exfalso; omega))
        go_meet
        case rel => exact ⟨⟨_, _, rfl, fun h => by omega⟩, rfl, rfl, rfl⟩
    case rest =>
      obtain ⟨⟨o, cx, rfl, HO⟩, rfl, rfl, hwc⟩ := hcut
      rw [hwc]
      clear hwc
      go_wp2_with fail
      all_goals (try (exfalso; omega))
      obtain ⟨R, hR⟩ := name_it (ps.foldl (pieceC now) c0)
      rw [hR.out] at HV
      go_loopw [11, 12, 13, 14, 35] (fun _ _ _ _ i wr => ∃ (k : Nat) (c : SetC), k ≤ nl ∧ i = .int .i64 k ∧ Hid ((ps.drop k).foldl (pieceC now) c = R) ∧ Hid (CellsAt wr cb (cellsS c)) ∧ Hid (Keeps (fun i => i = cb) w6 wr)) (fun _ _ _ _ i _ => nl - (intOf i).toNat)
      case atStart => exact ⟨0, c0, Nat.zero_le _, rfl, hR, C5, Keeps.refl _ _⟩
      clear hR C5
      case round =>
        obtain ⟨k, c, hk, rfl, hr, KC, KP⟩ := hrel
        obtain ⟨wq, hwq⟩ : ∃ wq, wq = wr := ⟨wr, rfl⟩
        subst hwq
        by_cases hlt : k < nl
        · have hkp : k < ps.length := by rw [HNL.out]; exact hlt
          have ho1 : o = 1 := HO.out (by omega)
          have CG : wq.cell? ⟨g, o + k, none⟩ = some (.string (bs ps[k])) := by
            rw [ho1, cell_of_block (KP.out.block g (by have := GC.out; have := GL.out; omega) (by have := GC.out; omega)), PC5.out (1 + k) (by rw [List.length_cons]; omega)]
            congr 3
            rw [List.getElem_cons, dif_neg (by omega)]
            congr 1
            omega
          have hq := HALL.out ps[k] (List.getElem_mem hkp)
          have hr2 := hr.out
          rw [List.drop_eq_getElem_cons hkp, List.foldl_cons] at hr2
          clear ho1
          obtain ⟨q, hqn⟩ := name_it ps[k]
          rw [hqn.out] at CG hq hr2
          have hpc : pieceC now c q = attrC now c ((trim (halvesG 61 q).1).map lowerB) (trim (halvesG 61 q).2) := rfl
          rw [hpc] at hr2
          have HC := Lib.hid (rhalves_any (bs q) wq (by unfold maxLen; rw [size_bs]; omega))
          rw [L_bs] at HC
          unfold halvesV at HC
          obtain ⟨hl1, hl2⟩ := halves_le 61 q
          obtain ⟨A, hA⟩ := name_it (halvesG 61 q).1
          obtain ⟨Z, hZ⟩ := name_it (halvesG 61 q).2
          obtain ⟨ok, hok⟩ := name_it (cutC 61 q).isSome
          rw [hA.out, hZ.out, hok.out] at HC
          rw [hA.out] at hl1 hr2
          rw [hZ.out] at hl2 hr2
          have hla := trim_le A
          have hlz := trim_le Z
          have TT := Lib.hid (fun (x : List UInt8) (hx : x.length ≤ 1073741824) wx => rtrim_any (bs x) wx (by unfold maxLen; rw [size_bs]; omega))
          simp only [L_bs] at TT
          have AT := Lib.hid (fun wx => rattribute_any c (bs (trim A)) (bs (trim Z)) now wx (by rw [size_bs]; omega) (by rw [size_bs]; omega))
          simp only [L_bs] at AT
          obtain ⟨tr, htr⟩ := name_it trim
          rw [htr.out] at hla hlz hr2
          simp only [htr.out] at TT AT
          obtain ⟨c', hc'⟩ := name_it (attrC now c ((tr A).map lowerB) (tr Z))
          rw [hc'.out] at hr2 AT
          have HR2 := Lib.hid hr2
          clear hpc hA hZ hok hr hr2 hqn htr hc' hkp
          go_wp2_with fail
          all_goals (try (exfalso; omega))
          refine HC.out.mono ?_; rintro e w8 ⟨rfl, hb8⟩
          have KP8 : Hid (Keeps (fun i => i = cb) w6 w8) := KP.out.trans (Keeps.of hb8 (Nat.le_refl _))
          have KC8 := Lib.hid (KC.out.next hb8)
          clear KC HC hb8 CG KP
          go_upto_region 10 with fail
          have bd := (Below.refl w8.heap.size w8).drew
          have KP9 : Hid (Keeps (fun i => i = cb) w6 w8.drew) := KP8.out.trans (Keeps.of bd (Nat.le_refl _))
          have KC9 := Lib.hid (KC8.out.next bd)
          obtain ⟨n, v, p1, d, ma, hm, ex, he, sc, ht, sm⟩ := c
          obtain ⟨nm', vm', pm', dm', mm', hm', em', hm2', sm2', tm', xm'⟩ := c'
          unfold cellsS at AT
          simp only at AT
          clear KP8 bd KC8
          have x0 : w8.drew.cell? ⟨cb, 0, none⟩ = some (.string (bs n)) := KC9.out.at 0 _ rfl
          have x1 : w8.drew.cell? ⟨cb, 1, none⟩ = some (.string (bs v)) := KC9.out.at 1 _ rfl
          have x2 : w8.drew.cell? ⟨cb, 2, none⟩ = some (.string (bs p1)) := KC9.out.at 2 _ rfl
          have x3 : w8.drew.cell? ⟨cb, 3, none⟩ = some (.string (bs d)) := KC9.out.at 3 _ rfl
          have x4 : w8.drew.cell? ⟨cb, 4, none⟩ = some (.int .i64 ma) := KC9.out.at 4 _ rfl
          have x5 : w8.drew.cell? ⟨cb, 5, none⟩ = some (.bool hm) := KC9.out.at 5 _ rfl
          have x6 : w8.drew.cell? ⟨cb, 6, none⟩ = some (.int .i64 ex) := KC9.out.at 6 _ rfl
          have x7 : w8.drew.cell? ⟨cb, 7, none⟩ = some (.bool he) := KC9.out.at 7 _ rfl
          have x8 : w8.drew.cell? ⟨cb, 8, none⟩ = some (.bool sc) := KC9.out.at 8 _ rfl
          have x9 : w8.drew.cell? ⟨cb, 9, none⟩ = some (.bool ht) := KC9.out.at 9 _ rfl
          have x10 : w8.drew.cell? ⟨cb, 10, none⟩ = some (.int .i64 sm) := KC9.out.at 10 _ rfl
          go_region_with (first
            | (go_at_call 60; refine (TT.out _ (by omega) _).mono ?_; rintro e w' ⟨rfl, rfl⟩)
            | (go_at_call 59; refine (AT.out _).mono ?_; rintro e w' ⟨rfl, hb⟩; have KC10 := Lib.hid (KC9.out.next hb); have z0 := KC10.out.at 0 _ rfl; have y0 := KC10.out.free 0; have z1 := KC10.out.at 1 _ rfl; have y1 := KC10.out.free 1; have z2 := KC10.out.at 2 _ rfl; have y2 := KC10.out.free 2; have z3 := KC10.out.at 3 _ rfl; have y3 := KC10.out.free 3; have z4 := KC10.out.at 4 _ rfl; have y4 := KC10.out.free 4; have z5 := KC10.out.at 5 _ rfl; have y5 := KC10.out.free 5; have z6 := KC10.out.at 6 _ rfl; have y6 := KC10.out.free 6; have z7 := KC10.out.at 7 _ rfl; have y7 := KC10.out.free 7; have z8 := KC10.out.at 8 _ rfl; have y8 := KC10.out.free 8; have z9 := KC10.out.at 9 _ rfl; have y9 := KC10.out.free 9; have z10 := KC10.out.at 10 _ rfl; have y10 := KC10.out.free 10))
          all_goals
            have KC11 := Lib.hid (KC10.out.put (cellsS ⟨nm', vm', pm', dm', mm', hm', em', hm2', sm2', tm', xm'⟩) rfl)
            have KP11 : Hid (Keeps (fun i => i = cb) w6 (putAll w' cb 0 (cellsS ⟨nm', vm', pm', dm', mm', hm', em', hm2', sm2', tm', xm'⟩))) := (KP9.out.trans (Keeps.of hb (Nat.le_refl _))).trans (Keeps.put (S := fun i => i = cb) (b := cb) rfl (cellsS ⟨nm', vm', pm', dm', mm', hm', em', hm2', sm2', tm', xm'⟩) 0 w')
            clear x0 x1 x2 x3 x4 x5 x6 x7 x8 x9 x10 y0 y1 y2 y3 y4 y5 y6 y7 y8 y9 y10 z0 z1 z2 z3 z4 z5 z6 z7 z8 z9 z10 KC10 KC9 KP9 hb AT TT
            rw [put11]
            generalize hw9 : putAll w' cb 0 _ = w9
            have KC12 : Hid (CellsAt w9 cb (cellsS ⟨nm', vm', pm', dm', mm', hm', em', hm2', sm2', tm', xm'⟩)) := by rw [← hw9]; exact KC11
            have KP12 : Hid (Keeps (fun i => i = cb) w6 w9) := by rw [← hw9]; exact KP11
            clear KC11 KP11 hw9
            go_wp2_with fail
            go_roundw
            case rel => exact ⟨k + 1, ⟨nm', vm', pm', dm', mm', hm', em', hm2', sm2', tm', xm'⟩, by omega, by go_num, HR2, KC12, KP12⟩
            case measure => simp [intOf]; omega
        · obtain rfl : k = nl := by omega
          have hdk : ps.drop k = [] := List.drop_eq_nil_of_le (by rw [HNL.out]; exact Nat.le_refl _)
          have hr2 := hr.out
          rw [hdk] at hr2
          have hr3 : c = R := hr2
          subst hr3
          have K9 := Lib.hid (K5.out.keeps KP.out (by have := GC.out; omega))
          have D9 : Hid (Below w.heap.size w wq) := D5.out.trans (KP.out.below (fun i hi h => by have := GC.out; omega) D5.out.size)
          clear hr hr2 hdk KP
          have d0 := KC.out.at 0 _ rfl
          have d1 := KC.out.at 1 _ rfl
          have d2 := KC.out.at 2 _ rfl
          have d3 := KC.out.at 3 _ rfl
          have d4 := KC.out.at 4 _ rfl
          have d5 := KC.out.at 5 _ rfl
          have d6 := KC.out.at 6 _ rfl
          have d7 := KC.out.at 7 _ rfl
          have d8 := KC.out.at 8 _ rfl
          have d9 := KC.out.at 9 _ rfl
          have d10 := KC.out.at 10 _ rfl
          have z0 := K9.out.at 0 _ rfl
          have z1 := K9.out.at 1 _ rfl
          have z2 := K9.out.at 2 _ rfl
          have z3 := K9.out.at 3 _ rfl
          have z4 := K9.out.at 4 _ rfl
          have z5 := K9.out.at 5 _ rfl
          have z6 := K9.out.at 6 _ rfl
          have z7 := K9.out.at 7 _ rfl
          have z8 := K9.out.at 8 _ rfl
          have z9 := K9.out.at 9 _ rfl
          have z10 := K9.out.at 10 _ rfl
          have y0 := K9.out.free 0
          have y1 := K9.out.free 1
          have y2 := K9.out.free 2
          have y3 := K9.out.free 3
          have y4 := K9.out.free 4
          have y5 := K9.out.free 5
          have y6 := K9.out.free 6
          have y7 := K9.out.free 7
          have y8 := K9.out.free 8
          have y9 := K9.out.free 9
          have y10 := K9.out.free 10
          have KE := Lib.hid (K9.out.put (cellsS c) rfl)
          have DE := Lib.hid (putAll_below (cellsS c) 0 _ _ D9.out (Nat.le_refl w.heap.size))
          clear KC K9 D9
          go_wp2_with fail
          rw [put11]
          generalize hw9 : putAll _ w.heap.size 0 _ = w9
          have KG : Hid (CellsAt w9 w.heap.size (cellsS c)) := by rw [← hw9]; exact KE
          have DG : Hid (Below w.heap.size w w9) := by rw [← hw9]; exact DE
          clear d0 d1 d2 d3 d4 d5 d6 d7 d8 d9 d10 z0 z1 z2 z3 z4 z5 z6 z7 z8 z9 z10 y0 y1 y2 y3 y4 y5 y6 y7 y8 y9 y10 KE DE hw9
          have f0 : w9.cell? ⟨w.heap.size, 0, none⟩ = some (.string (bs c.name)) := KG.out.at 0 _ rfl
          have f1 : w9.cell? ⟨w.heap.size, 1, none⟩ = some (.string (bs c.value)) := KG.out.at 1 _ rfl
          have f2 : w9.cell? ⟨w.heap.size, 2, none⟩ = some (.string (bs c.path)) := KG.out.at 2 _ rfl
          have f3 : w9.cell? ⟨w.heap.size, 3, none⟩ = some (.string (bs c.domain)) := KG.out.at 3 _ rfl
          have f4 : w9.cell? ⟨w.heap.size, 4, none⟩ = some (.int .i64 c.maxAge) := KG.out.at 4 _ rfl
          have f5 : w9.cell? ⟨w.heap.size, 5, none⟩ = some (.bool c.hasMax) := KG.out.at 5 _ rfl
          have f6 : w9.cell? ⟨w.heap.size, 6, none⟩ = some (.int .i64 c.expires) := KG.out.at 6 _ rfl
          have f7 : w9.cell? ⟨w.heap.size, 7, none⟩ = some (.bool c.hasExp) := KG.out.at 7 _ rfl
          have f8 : w9.cell? ⟨w.heap.size, 8, none⟩ = some (.bool c.secure) := KG.out.at 8 _ rfl
          have f9 : w9.cell? ⟨w.heap.size, 9, none⟩ = some (.bool c.http) := KG.out.at 9 _ rfl
          have f10 : w9.cell? ⟨w.heap.size, 10, none⟩ = some (.int .i64 c.same) := KG.out.at 10 _ rfl
          refine bodyPost_ret (v := setV (some c)) (by simp [results, Tryz.results22, go_sem, setV, cellsS, f0, f1, f2, f3, f4, f5, f6, f7, f8, f9, f10]) rfl ?_
          exact ⟨by rw [HV.out], DG.out⟩
end Go.Proofs.YtkenianfpfamcaaGreatDoor
namespace Go.Proofs.YtkenianfpfamcaaGreatDoor
open Go Go.RowKit
set_option maxHeartbeats 8000000

theorem setV_cells (o : Option SetC) : ∃ c n, setV o = .tuple #[.agg (cellsS c).toArray, .int .i64 n] := by
  cases o with
  | none => exact ⟨zS, 160, rfl⟩
  | some c => exact ⟨c, 0, rfl⟩
set_option maxRecDepth 100000 in
theorem lawSets_any (s : ByteArray) (now : Int) (w : World) (hE : EnvK w) (hs : s.size ≤ 1073741824) :
    Calls Tryz.prog 5 #[.string s, .int .i64 now] w fun e w' => e = .returned (.bool true) ∧ Below w.heap.size w w' := by
  have HA := Lib.hid (awake_any w hE)
  have HP := Lib.hid (fun wx (h : EnvK wx) => parseset_any s now wx h hs)
  have HR := Lib.hid (fun wx => rparseset_any s now wx hs)
  have HE := Lib.hid hE
  obtain ⟨c, n, hc⟩ := setV_cells (parseSetC now (L s))
  rw [hc] at HP HR
  have HS := Lib.hid (fun wx => set_law c wx)
  clear hc hE
  have CF := Lib.hid (fun wx => CellsAt.first wx (cellsS c) tS)
  have RF' := Lib.hid (fun wx => CellsAt.first wx (cellsS c) tRS)
  have CB := Lib.hid (fun (wx : World) => below_put2 (w := wx) (cs := (cellsS c).toArray) (T := tS))
  have RB := Lib.hid (fun (wx : World) => below_put2 (w := wx) (cs := (cellsS c).toArray) (T := tRS))
  have CO := Lib.hid (fun (W : World) (b : Nat) (h : CellsAt W b (cellsS c)) => h.cell_of)
  obtain ⟨nm, v, p, d, ma, hm, ex, he, sc, ht, sm⟩ := c
  unfold cellsS at HP HR HS CF RF' CB RB CO
  simp only at HP HR HS CF RF' CB RB CO
  go_enter Tryz.func5, Tryz.ntmps5
  go_wp2_with fail
  refine HA.out.mono ?_; rintro e w1 ⟨rfl, hb1⟩
  have E1 := Lib.hid (HE.out.next hb1)
  have B1 := Lib.hid hb1
  clear hb1 HE HA
  go_wp2_with fail
  refine (HP.out _ E1.out).mono ?_; rintro e w2 ⟨rfl, hb2⟩
  have B2 := Lib.hid (B1.out.trans (hb2.mono B1.out.size))
  have K3 := Lib.hid (CF.out w2)
  have B3 := Lib.hid (B2.out.trans ((CB.out w2).mono B2.out.size))
  clear hb2 HP E1 B1 B2 CF CB
  go_wp2_with fail
  generalize w2.alloc _ = w3 at K3 B3 ⊢
  refine (HR.out _).mono ?_; rintro e w4 ⟨rfl, hb4⟩
  have K4 := Lib.hid (K3.out.next hb4)
  have B4 := Lib.hid (B3.out.trans (hb4.mono B3.out.size))
  clear hb4 HR K3 B3
  have K5 := Lib.hid (K4.out.next (RB.out w4))
  have D5 := Lib.hid (RF'.out w4)
  have B5 := Lib.hid (B4.out.trans ((RB.out w4).mono B4.out.size))
  clear K4 B4 RB RF'
  go_upto_region 5 with fail
  generalize w4.alloc _ = w5 at K5 D5 B5 ⊢
  have bd := (Below.refl w5.heap.size w5).drew
  have K6 := Lib.hid (K5.out.next bd)
  have D6 := Lib.hid (D5.out.next bd)
  have B6 := Lib.hid (B5.out.trans (bd.mono B5.out.size))
  clear bd K5 D5 B5
  obtain ⟨b5, h5⟩ := name_it w2.heap.size
  obtain ⟨b7, h7⟩ := name_it w4.heap.size
  rw [h5.out] at K6 ⊢
  rw [h7.out] at D6 ⊢
  clear h5 h7
  have EQ : ∀ wx : World, (binOp BinOp.eql tRS (.agg #[.string (bs nm), .string (bs v), .string (bs p), .string (bs d), .int .i64 ma, .bool hm, .int .i64 ex, .bool he, .bool sc, .bool ht, .int .i64 sm]) (.agg #[.string (bs nm), .string (bs v), .string (bs p), .string (bs d), .int .i64 ma, .bool hm, .int .i64 ex, .bool he, .bool sc, .bool ht, .int .i64 sm])).run Tryz.prog wx = .ok (.bool true) wx := by
    intro wx
    simp [go_sem]
  have SK : Hid (∀ W : World, CellsAt W b5 [.string (bs nm), .string (bs v), .string (bs p), .string (bs d), .int .i64 ma, .bool hm, .int .i64 ex, .bool he, .bool sc, .bool ht, .int .i64 sm] → CellsAt W b7 [.string (bs nm), .string (bs v), .string (bs p), .string (bs d), .int .i64 ma, .bool hm, .int .i64 ex, .bool he, .bool sc, .bool ht, .int .i64 sm] → (W.cell? ⟨b5, 0, none⟩ = some (.string (bs nm)) ∧ W.cell? ⟨b5, 1, none⟩ = some (.string (bs v)) ∧ W.cell? ⟨b5, 2, none⟩ = some (.string (bs p)) ∧ W.cell? ⟨b5, 3, none⟩ = some (.string (bs d)) ∧ W.cell? ⟨b5, 4, none⟩ = some (.int .i64 ma) ∧ W.cell? ⟨b5, 5, none⟩ = some (.bool hm) ∧ W.cell? ⟨b5, 6, none⟩ = some (.int .i64 ex) ∧ W.cell? ⟨b5, 7, none⟩ = some (.bool he) ∧ W.cell? ⟨b5, 8, none⟩ = some (.bool sc) ∧ W.cell? ⟨b5, 9, none⟩ = some (.bool ht) ∧ W.cell? ⟨b5, 10, none⟩ = some (.int .i64 sm)) ∧ W.cell? ⟨b7, 0, none⟩ = some (.string (bs nm)) ∧ W.cell? ⟨b7, 1, none⟩ = some (.string (bs v)) ∧ W.cell? ⟨b7, 2, none⟩ = some (.string (bs p)) ∧ W.cell? ⟨b7, 3, none⟩ = some (.string (bs d)) ∧ W.cell? ⟨b7, 4, none⟩ = some (.int .i64 ma) ∧ W.cell? ⟨b7, 5, none⟩ = some (.bool hm) ∧ W.cell? ⟨b7, 6, none⟩ = some (.int .i64 ex) ∧ W.cell? ⟨b7, 7, none⟩ = some (.bool he) ∧ W.cell? ⟨b7, 8, none⟩ = some (.bool sc) ∧ W.cell? ⟨b7, 9, none⟩ = some (.bool ht) ∧ W.cell? ⟨b7, 10, none⟩ = some (.int .i64 sm)) := fun W h1 h2 => ⟨CO.out W b5 h1, CO.out W b7 h2⟩
  have SK : Hid (∀ W : World, CellsAt W b5 [.string (bs nm), .string (bs v), .string (bs p), .string (bs d), .int .i64 ma, .bool hm, .int .i64 ex, .bool he, .bool sc, .bool ht, .int .i64 sm] → CellsAt W b7 [.string (bs nm), .string (bs v), .string (bs p), .string (bs d), .int .i64 ma, .bool hm, .int .i64 ex, .bool he, .bool sc, .bool ht, .int .i64 sm] → W.cell? ⟨b5, 0, none⟩ = some (.string (bs nm)) ∧ W.cell? ⟨b5, 1, none⟩ = some (.string (bs v)) ∧ W.cell? ⟨b5, 2, none⟩ = some (.string (bs p)) ∧ W.cell? ⟨b5, 3, none⟩ = some (.string (bs d)) ∧ W.cell? ⟨b5, 4, none⟩ = some (.int .i64 ma) ∧ W.cell? ⟨b5, 5, none⟩ = some (.bool hm) ∧ W.cell? ⟨b5, 6, none⟩ = some (.int .i64 ex) ∧ W.cell? ⟨b5, 7, none⟩ = some (.bool he) ∧ W.cell? ⟨b5, 8, none⟩ = some (.bool sc) ∧ W.cell? ⟨b5, 9, none⟩ = some (.bool ht) ∧ W.cell? ⟨b5, 10, none⟩ = some (.int .i64 sm) ∧ W.cell? ⟨b7, 0, none⟩ = some (.string (bs nm)) ∧ W.cell? ⟨b7, 1, none⟩ = some (.string (bs v)) ∧ W.cell? ⟨b7, 2, none⟩ = some (.string (bs p)) ∧ W.cell? ⟨b7, 3, none⟩ = some (.string (bs d)) ∧ W.cell? ⟨b7, 4, none⟩ = some (.int .i64 ma) ∧ W.cell? ⟨b7, 5, none⟩ = some (.bool hm) ∧ W.cell? ⟨b7, 6, none⟩ = some (.int .i64 ex) ∧ W.cell? ⟨b7, 7, none⟩ = some (.bool he) ∧ W.cell? ⟨b7, 8, none⟩ = some (.bool sc) ∧ W.cell? ⟨b7, 9, none⟩ = some (.bool ht) ∧ W.cell? ⟨b7, 10, none⟩ = some (.int .i64 sm)) := fun W h1 h2 => by
    obtain ⟨⟨a0, a1, a2, a3, a4, a5, a6, a7, a8, a9, a10⟩, h⟩ := SK.out W h1 h2
    exact ⟨a0, a1, a2, a3, a4, a5, a6, a7, a8, a9, a10, h⟩
  go_region_held3 (fun W => W.cell? ⟨b5, 0, none⟩ = some (.string (bs nm)) ∧ W.cell? ⟨b5, 1, none⟩ = some (.string (bs v)) ∧ W.cell? ⟨b5, 2, none⟩ = some (.string (bs p)) ∧ W.cell? ⟨b5, 3, none⟩ = some (.string (bs d)) ∧ W.cell? ⟨b5, 4, none⟩ = some (.int .i64 ma) ∧ W.cell? ⟨b5, 5, none⟩ = some (.bool hm) ∧ W.cell? ⟨b5, 6, none⟩ = some (.int .i64 ex) ∧ W.cell? ⟨b5, 7, none⟩ = some (.bool he) ∧ W.cell? ⟨b5, 8, none⟩ = some (.bool sc) ∧ W.cell? ⟨b5, 9, none⟩ = some (.bool ht) ∧ W.cell? ⟨b5, 10, none⟩ = some (.int .i64 sm) ∧ W.cell? ⟨b7, 0, none⟩ = some (.string (bs nm)) ∧ W.cell? ⟨b7, 1, none⟩ = some (.string (bs v)) ∧ W.cell? ⟨b7, 2, none⟩ = some (.string (bs p)) ∧ W.cell? ⟨b7, 3, none⟩ = some (.string (bs d)) ∧ W.cell? ⟨b7, 4, none⟩ = some (.int .i64 ma) ∧ W.cell? ⟨b7, 5, none⟩ = some (.bool hm) ∧ W.cell? ⟨b7, 6, none⟩ = some (.int .i64 ex) ∧ W.cell? ⟨b7, 7, none⟩ = some (.bool he) ∧ W.cell? ⟨b7, 8, none⟩ = some (.bool sc) ∧ W.cell? ⟨b7, 9, none⟩ = some (.bool ht) ∧ W.cell? ⟨b7, 10, none⟩ = some (.int .i64 sm))
    (first | exact SK.out _ K6.out D6.out | exact SK.out _ (K6.out.next hb) (D6.out.next hb) | assumption)
    ((go_at_call 19; refine (HS.out _).mono ?_; rintro e w' ⟨rfl, hb⟩))
  have B7 := Lib.hid (B6.out.trans (hb.mono B6.out.size))
  go_wp2_with fail
  all_goals (try (exfalso; omega))
  go_ret
  exact ⟨ret_bool (by simp), B7.out⟩
end Go.Proofs.YtkenianfpfamcaaGreatDoor
