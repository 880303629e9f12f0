/- SpanBack in plain Lean: what a range header asks for is spans of the body; merged, put in parts and read again they are the same. -/
import Derived.Test.YtnodboggemggmaaGreatDoorPcC
import Derived.Test.YtnodboggemggmaaGreatDoorPcD
import Derived.Test.YtnodboggemggmaaGreatDoorTellsP
import Derived.Test.YtnodboggemggmaaGreatDoorMergeP
import Derived.Test.YtnodboggemggmaaGreatDoorLawParses
import Derived.Test.YtnodboggemggmaaGreatDoorPartsK
namespace Go.Proofs.YtnodboggemggmaaGreatDoor
open Go Go.RowKit

theorem starts_app (a r : List UInt8) : startsB (a ++ r) a = true := by
  unfold startsB
  rw [List.take_left]
  exact decide_eq_true rfl
theorem scanT_mid {x rest : List UInt8} (hx : x.all isFld = true) : scanT (x ++ ([13, 10] ++ rest)) = .val x := by
  rw [scanT_pre x _ hx]
  show LineR.pre x (scanT (13 :: 10 :: rest)) = _
  rw [scanT_cons, fld13, if_neg (by decide), if_pos rfl]
  show LineR.val (x ++ []) = _
  rw [List.append_nil]
theorem lineM_mid {head x rest : List UInt8} (hx : x.all isFld = true) : lineM head (head ++ (x ++ ([13, 10] ++ rest))) = .val x := by
  unfold lineM
  rw [if_neg (by simp), List.take_left, if_pos rfl, List.drop_left]
  exact scanT_mid hx
theorem drop_mid {h x r : List UInt8} {n : Nat} (hn : n = h.length + x.length + 2) : (h ++ (x ++ ([13, 10] ++ r))).drop n = r := by
  have e : h ++ (x ++ ([13, 10] ++ r)) = (h ++ x ++ [13, 10]) ++ r := by simp
  rw [e, hn, show h.length + x.length + 2 = (h ++ x ++ [13, 10]).length by simp; omega, List.drop_left]
theorem okB_fld_all : ∀ p : Fin 256, okB (UInt8.ofNat p.val) = true → isFld (UInt8.ofNat p.val) = true := by decide +kernel
theorem okB_fld {c : UInt8} (h : okB c = true) : isFld c = true := by
  have := okB_fld_all ⟨c.toNat, c.toNat_lt⟩
  rw [show UInt8.ofNat (Fin.val (⟨c.toNat, c.toNat_lt⟩ : Fin 256)) = c from UInt8.ofNat_toNat] at this
  exact this h
theorem tellL_fld {a b n : Int} (h : isO a b n = true) : (tellL a b n).all isFld = true := by
  have ho := of_decide_eq_true h
  unfold tellL
  simp only [List.all_append, Bool.and_eq_true]
  refine ⟨⟨⟨by decide, ?_⟩, by decide⟩, ?_⟩
  · exact List.all_eq_true.2 fun c hc => okB_fld (bytesL_ok ho.1 ho.2.1 c hc)
  · exact List.all_eq_true.2 fun c hc => okB_fld (itoa_ok (by omega) c hc)
/-- a part of a span of a body -/
def pcOf (k body : List UInt8) (x : Int × Int) : Pc := ⟨k, x.1, x.2, body.length, (body.take x.2.toNat).drop x.1.toNat⟩
def restOf (k body : List UInt8) (x : Int × Int) (rest : List UInt8) : List UInt8 :=
  mediaL ++ (k ++ ([13, 10] ++ (rangedL ++ (tellL x.1 x.2 body.length ++ ([13, 10] ++ ([13, 10] ++ ((body.take x.2.toNat).drop x.1.toNat ++ rest)))))))
theorem partM_one {N at_ : Nat} {k body rest : List UInt8} {x : Int × Int} (hk : k.all isFld = true) (hx : isO x.1 x.2 body.length = true) (hb : body.length ≤ 4611686018427387904) :
    ∃ u, partM N at_ (restOf k body x rest) = .go (pcOf k body x) u ∧ (restOf k body x rest).drop u = rest := by
  have ho := of_decide_eq_true hx
  obtain ⟨T, hT⟩ : ∃ T, tellL x.1 x.2 body.length = T := ⟨_, rfl⟩
  have hTf : T.all isFld = true := by rw [← hT]; exact tellL_fld hx
  have htold : toldM T = (x.1, x.2, (body.length : Int), 0) := by rw [← hT]; exact told_tell x.1 x.2 body.length hx (by omega)
  obtain ⟨B, hB⟩ : ∃ B, (body.take x.2.toNat).drop x.1.toNat = B := ⟨_, rfl⟩
  have hBl : B.length = (x.2 - x.1).toNat := by
    rw [← hB, List.length_drop, List.length_take]; omega
  unfold restOf pcOf
  rw [hT, hB]
  obtain ⟨R3, hR3⟩ : ∃ R3, [13, 10] ++ (B ++ rest) = R3 := ⟨_, rfl⟩
  obtain ⟨R2, hR2⟩ : ∃ R2, rangedL ++ (T ++ ([13, 10] ++ R3)) = R2 := ⟨_, rfl⟩
  obtain ⟨R1, hR1⟩ : ∃ R1, mediaL ++ (k ++ ([13, 10] ++ R2)) = R1 := ⟨_, rfl⟩
  have hd1 : R1.drop (14 + k.length + 2) = R2 := by rw [← hR1]; exact drop_mid rfl
  have hd2 : R1.drop (14 + k.length + 2 + (15 + T.length + 2)) = R3 := by rw [← List.drop_drop, hd1, ← hR2]; exact drop_mid rfl
  have hd3 : R1.drop (14 + k.length + 2 + (15 + T.length + 2) + 2) = B ++ rest := by rw [← List.drop_drop, hd2, ← hR3]; rfl
  have hl1 : lineM mediaL R1 = .val k := by rw [← hR1]; exact lineM_mid hk
  have hl2 : lineM rangedL R2 = .val T := by rw [← hR2]; exact lineM_mid hTf
  rw [hR3, hR2, hR1]
  refine ⟨14 + k.length + 2 + (15 + T.length + 2) + 2 + (x.2 - x.1).toNat, ?_, ?_⟩
  · unfold partM
    rw [hl1]
    simp only []
    rw [hd1, hl2]
    simp only []
    rw [hd2, hd3, htold]
    simp only []
    rw [if_neg, if_pos (by rw [← hR3]; exact starts_app _ _), if_neg]
    · congr 2
      rw [← hBl, List.take_left]
    · rw [List.length_append]; omega
    · rintro (h | ⟨h1, h2⟩)
      · exact h rfl
      · omega
  · rw [← List.drop_drop, hd3, ← hBl, List.drop_left]
theorem starts_not_last {l E : List UInt8} (h : startsB l (E ++ [13, 10]) = true) : startsB l (E ++ [45, 45] ++ [13, 10]) = false := by
  have h0 : l.take (E ++ [13, 10]).length = E ++ [13, 10] := by unfold startsB at h; exact of_decide_eq_true h
  unfold startsB
  refine decide_eq_false (fun hh => ?_)
  have e1 := congrArg (fun x => x[E.length]?) h0
  have e2 := congrArg (fun x => x[E.length]?) hh
  simp only [List.getElem?_take, List.length_append, List.length_cons, List.length_nil] at e1 e2
  rw [if_pos (by omega)] at e1
  rw [if_pos (by omega), e1, List.append_assoc, List.getElem?_append_right (Nat.le_refl _), List.getElem?_append_right (Nat.le_refl _), Nat.sub_self] at e2
  simp at e2
theorem partOne_rest (b k body rest : List UInt8) (x : Int × Int) : partOne b k body x ++ rest = ([13, 10, 45, 45] ++ b ++ [13, 10]) ++ restOf k body x rest := by
  unfold partOne restOf
  simp only [List.append_assoc]
theorem pcsM_parts (b k body : List UInt8) (N : Nat) (hk : k.all isFld = true) (hb : body.length ≤ 4611686018427387904) : ∀ (l : List (Int × Int)) (f at_ : Nat) (acc : List Pc),
    areO l body.length = true → (l ≠ [] ∨ acc ≠ []) → l.length < f → pcsM ([13, 10, 45, 45] ++ b) N f at_ (partsAll b k body l ++ partsEnd b) acc = (acc ++ l.map (pcOf k body), 0, 0)
  | _, 0, _, _, _, _, h => by omega
  | [], f + 1, at_, acc, _, hne, _ => by
    have hacc : acc ≠ [] := by rcases hne with h | h; exact absurd rfl h; exact h
    rw [pcsM, if_pos ⟨hacc, by unfold partsAll partsEnd; rfl⟩]
    simp
  | x :: l, f + 1, at_, acc, ha, _, hf => by
    unfold areO at ha
    rw [List.all_cons, Bool.and_eq_true] at ha
    obtain ⟨E, hE⟩ : ∃ E, [13, 10, 45, 45] ++ b = E := ⟨_, rfl⟩
    have ih := pcsM_parts b k body N hk hb l f
    rw [hE] at ih ⊢
    have e : partsAll b k body (x :: l) ++ partsEnd b = (E ++ [13, 10]) ++ restOf k body x (partsAll b k body l ++ partsEnd b) := by
      rw [← hE, ← partOne_rest]
      unfold partsAll
      rw [List.flatMap_cons, List.append_assoc]
    obtain ⟨rest, hrest⟩ : ∃ r, partsAll b k body l ++ partsEnd b = r := ⟨_, rfl⟩
    rw [hrest] at ih e
    obtain ⟨R, hR⟩ : ∃ r, partsAll b k body (x :: l) ++ partsEnd b = r := ⟨_, rfl⟩
    rw [hR] at e ⊢
    have hs : startsB R (E ++ [13, 10]) = true := by rw [e]; exact starts_app _ _
    have hn := starts_not_last hs
    have hd : R.drop (E.length + 2) = restOf k body x rest := by
      rw [e, show E.length + 2 = (E ++ [13, 10]).length by simp, List.drop_left]
    obtain ⟨u, hu1, hu2⟩ := partM_one (N := N) (at_ := at_ + (E.length + 2)) (rest := rest) hk ha.1 hb
    rw [pcsM, if_neg (fun h => by rw [whole_starts h.2] at hn; exact absurd hn (by decide)), if_neg (fun h => by rw [h.2] at hn; exact absurd hn (by decide)), if_pos hs, hd, hu1]
    simp only []
    rw [← List.drop_drop, hd, hu2, ih _ _ ha.2 (Or.inr (by simp)) (by simp at hf; omega)]
    simp
/-- THE LAW: what was put in parts comes out. -/
theorem pieces_parts (b k body : List UInt8) (l : List (Int × Int)) (hm : isMk b = true) (hk : k.all isFld = true) (hb : body.length ≤ 4611686018427387904) (ha : areO l body.length = true) (hne : l ≠ []) :
    piecesM b (partsT b k body l) = (l.map (pcOf k body), 0, 0) := by
  unfold piecesM partsT
  rw [if_pos hm, pcsM_parts b k body _ hk hb l _ 0 [] ha (Or.inl hne), List.nil_append]
  have hlen : ∀ (l : List (Int × Int)), l.length ≤ (partsAll b k body l).length := by
    intro l
    induction l with
    | nil => exact Nat.le_refl _
    | cons x l ih =>
      unfold partsAll at ih ⊢
      rw [List.flatMap_cons, List.length_append, List.length_cons]
      have : 1 ≤ (partOne b k body x).length := by unfold partOne; simp
      omega
  have := hlen l
  rw [List.length_append]; omega
theorem elem_ok {x : List UInt8} {size a b : Int} (h : elemO x size = some (a, b, true)) : isO a b size = true := by
  unfold elemO at h
  split at h
  · cases h
  · rename_i i _
    have b1 := numN_bd (x.take i)
    have b2 := numN_bd (x.drop (i + 1))
    split at h
    · split at h
      · injection h with h
        injection h with h1 h2
        injection h2 with h2 h3
        have h4 := of_decide_eq_true h3
        unfold isO
        refine decide_eq_true ?_
        rw [← h1, ← h2]
        split <;> omega
      · cases h
    · split at h
      · cases h
      · split at h
        · injection h with h
          injection h with h1 h2
          injection h2 with h2 h3
          have h4 := of_decide_eq_true h3
          exact decide_eq_true (by rw [← h1, ← h2]; omega)
        · split at h
          · rename_i hh
            injection h with h
            injection h with h1 h2
            injection h2 with h2 h3
            have h4 := of_decide_eq_true h3
            refine decide_eq_true ?_
            rw [← h1, ← h2]
            split <;> omega
          · cases h
theorem els_ok (size : Int) : ∀ (xs : List (List UInt8)) (l : List (Int × Int)), els size xs = some l → ∀ x, x ∈ l → isO x.1 x.2 size = true := by
  intro xs
  induction xs with
  | nil => intro l h; simp [els] at h; subst h; intro x hx; cases hx
  | cons x r ih =>
    intro l h
    simp only [els] at h
    cases hel : elemO x size with
    | none => rw [hel] at h; cases h
    | some p =>
      obtain ⟨a, b, m⟩ := p
      rw [hel] at h
      simp only [Option.map_eq_some_iff] at h
      obtain ⟨q, hq, rfl⟩ := h
      have hi := ih q hq
      cases m with
      | false => rw [if_neg (by decide)]; exact hi
      | true =>
        rw [if_pos rfl]
        intro y hy
        rcases List.mem_cons.1 hy with rfl | hy
        · exact elem_ok hel
        · exact hi y hy
theorem parse_ok {s : List UInt8} {n : Int} (h : parseE s n = 0) : parseL s n ≠ [] ∧ ∀ x, x ∈ parseL s n → isO x.1 x.2 n = true := by
  unfold parseE at h
  unfold parseL
  split at h
  · cases h
  · rename_i h0
    rw [if_neg h0]
    split at h
    · rename_i h1
      rw [if_pos h1]
      cases hl : listOf (cutZ 61 s) with
      | none => rw [hl] at h; cases h
      | some xs =>
        rw [hl] at h
        cases xs with
        | nil => cases h
        | cons x r =>
          simp only [fromE, fromL] at h ⊢
          cases he : els n (x :: r) with
          | none => rw [he] at h; cases h
          | some l =>
            rw [he] at h
            cases l with
            | nil => cases h
            | cons y q => exact ⟨by simp, fun z hz => els_ok n _ _ he z hz⟩
    · cases h
theorem parseL_len (s : ByteArray) (size : Int) : (parseL (L s) size).length ≤ s.size + 1 := by
  have hz := cutZ_le 61 (L s)
  rw [L_length] at hz
  unfold parseL
  split
  · simp
  · split
    · cases ho : listOf (cutZ 61 (L s)) with
      | none => simp [fromL]
      | some xs =>
        have h1 := (listOf_le ho).2
        simp only [fromL]
        cases he : els size xs with
        | none => simp
        | some l =>
          have h2 : ∀ (xs : List (List UInt8)) (l : List (Int × Int)), els size xs = some l → l.length ≤ xs.length := els_length size
          have := h2 xs l he
          simp only [Option.getD_some]; omega
    · simp
theorem merge_ok {l : List Sp} {n : Int} (hl : ∀ x, x ∈ l → isO x.1 x.2 n = true) (hne : l ≠ []) :
    rmergeS l ≠ [] ∧ (∀ y, y ∈ rmergeS l → isO y.1 y.2 n = true) ∧ ∀ x, x ∈ l → ∃ y, y ∈ rmergeS l ∧ y.1 ≤ x.1 ∧ x.2 ≤ y.2 := by
  obtain ⟨hn, hc, _⟩ := rmergeS_norm l
  refine ⟨?_, ?_, ?_⟩
  · intro h
    cases l with
    | nil => exact hne rfl
    | cons x r =>
      have hx := of_decide_eq_true (hl x (List.mem_cons_self ..))
      have := (hc x.1).2 ⟨x, List.mem_cons_self .., Int.le_refl _, hx.2.1⟩
      rw [h] at this
      exact cov_nil _ this
  · intro y hy
    have hy1 := norm_mem hn y hy
    obtain ⟨x, hx, x1, x2⟩ := (hc y.1).1 ⟨y, hy, Int.le_refl _, hy1⟩
    obtain ⟨z, hz, z1, z2⟩ := (hc (y.2 - 1)).1 ⟨y, hy, by omega, by omega⟩
    have hx' := of_decide_eq_true (hl x hx)
    have hz' := of_decide_eq_true (hl z hz)
    exact decide_eq_true ⟨by omega, hy1, by omega⟩
  · intro x hx
    have hx' := of_decide_eq_true (hl x hx)
    exact norm_whole hn hx'.2.1 fun p h1 h2 => (hc p).2 ⟨x, hx, h1, h2⟩
def sumS (l : List Sp) : Int := (l.map fun x => x.2 - x.1).sum
theorem sumS_cons (x : Sp) (l : List Sp) : sumS (x :: l) = x.2 - x.1 + sumS l := by simp [sumS]
theorem norm_sum : ∀ {m : List Sp}, Norm m → ∀ {lo hi : Int}, lo ≤ hi → (∀ y, y ∈ m → lo ≤ y.1 ∧ y.2 ≤ hi) → 2 * (m.length : Int) ≤ hi - lo + 1 ∧ sumS m ≤ hi - lo
  | [], _, lo, hi, h, _ => by simp [sumS]; omega
  | [x], hn, lo, hi, h, hm => by
    have h1 := hm x (List.mem_cons_self ..)
    have h2 := hn.1
    simp [sumS]; omega
  | x :: z :: r, hn, lo, hi, h, hm => by
    have h1 := hm x (List.mem_cons_self ..)
    have h2 := hn.1
    have h3 := hn.2.1 z (List.mem_cons_self ..)
    have h4 := hm z (List.mem_cons_of_mem _ (List.mem_cons_self ..))
    have h5 := hn.2.2.1
    obtain ⟨i1, i2⟩ := norm_sum (m := z :: r) hn.2.2 (lo := x.2 + 1) (hi := hi) (by omega) (fun y hy => ⟨by have := hn.2.1 y hy; omega, (hm y (List.mem_cons_of_mem _ hy)).2⟩)
    rw [sumS_cons, List.length_cons]
    omega
theorem partsAll_sum {b k body : List UInt8} (hb : body.length ≤ 4611686018427387904) (hc : b.length + k.length ≤ 100) : ∀ {l : List Sp}, (∀ y, y ∈ l → isO y.1 y.2 body.length = true) → ((partsAll b k body l).length : Int) ≤ 300 * (l.length : Int) + sumS l
  | [], _ => by simp [partsAll, sumS]
  | x :: l, h => by
    have ih := partsAll_sum (l := l) hb hc (fun y hy => h y (List.mem_cons_of_mem _ hy))
    have hx := h x (List.mem_cons_self ..)
    have ho := of_decide_eq_true hx
    have ht := tellL_le x.1 x.2 body.length hx (by omega)
    have hp : ((partOne b k body x).length : Int) ≤ 300 + (x.2 - x.1) := by
      unfold partOne
      simp only [List.length_append, List.length_drop, List.length_take, List.length_cons, List.length_nil, show mediaL.length = 14 from rfl, show rangedL.length = 15 from rfl]
      omega
    have e : partsAll b k body (x :: l) = partOne b k body x ++ partsAll b k body l := by simp [partsAll]
    rw [e, List.length_append, sumS_cons, List.length_cons]
    omega
theorem okB_mark_all : ∀ p : Fin 256, okB (UInt8.ofNat p.val) = true → markB (UInt8.ofNat p.val) = true := by decide +kernel
theorem okB_mark {c : UInt8} (h : okB c = true) : markB c = true := by
  have := okB_mark_all ⟨c.toNat, c.toNat_lt⟩
  rw [show UInt8.ofNat (Fin.val (⟨c.toNat, c.toNat_lt⟩ : Fin 256)) = c from UInt8.ofNat_toNat] at this
  exact this h
theorem markL_le (n : Nat) (h : n ≤ 3000000) : 1 ≤ (markL n).length ∧ (markL n).length ≤ 25 := by
  have := Lib.itoa_length_le (n : Int) (by omega) (by omega)
  have e : (markL n).length = 4 + (Lib.itoa (n : Int)).length := by unfold markL; rw [List.length_append]; rfl
  omega
theorem markL_mk (n : Nat) (h : n ≤ 3000000) : isMk (markL n) = true := by
  have hl := markL_le n h
  unfold isMk
  rw [Bool.and_eq_true]
  refine ⟨?_, decide_eq_true ⟨hl.1, by omega⟩⟩
  unfold markL
  rw [List.all_append, Bool.and_eq_true]
  exact ⟨by decide, List.all_eq_true.2 fun c hc => okB_mark (itoa_ok (by omega) c hc)⟩
theorem partsE_ok {n : Nat} {body : List UInt8} {l : List Sp} (h : n ≤ 3000000) (hf : hasN body n = false) (hne : l ≠ []) (ha : areO l body.length = true) : partsE (markL n) [97, 47, 98] body l = 0 := by
  unfold partsE
  rw [if_neg, if_neg (by decide), if_pos ⟨hne, ha⟩]
  rintro (h1 | h1)
  · rw [markL_mk n h] at h1; exact absurd h1 (by decide)
  · unfold hasN standL at hf
    rw [hf] at h1; exact absurd h1 (by decide)
end Go.Proofs.YtnodboggemggmaaGreatDoor
