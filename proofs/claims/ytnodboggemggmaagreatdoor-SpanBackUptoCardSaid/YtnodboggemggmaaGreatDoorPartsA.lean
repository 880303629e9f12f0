/- Contract of span: a body in parts. -/
import Derived.Test.YtnodboggemggmaaGreatDoorMarkA
import Derived.Test.YtnodboggemggmaaGreatDoorMarks
import Derived.Test.YtnodboggemggmaaGreatDoorPrintA
namespace Go.Proofs.YtnodboggemggmaaGreatDoor
open Go Go.RowKit
set_option maxHeartbeats 2000000

def mediaL : List UInt8 := [67, 111, 110, 116, 101, 110, 116, 45, 84, 121, 112, 101, 58, 32]
def rangedL : List UInt8 := [67, 111, 110, 116, 101, 110, 116, 45, 82, 97, 110, 103, 101, 58, 32]
def partOne (b k body : List UInt8) (x : Int × Int) : List UInt8 :=
  [13, 10, 45, 45] ++ b ++ [13, 10] ++ mediaL ++ k ++ [13, 10] ++ rangedL ++ tellL x.1 x.2 body.length ++ [13, 10] ++ [13, 10] ++ (body.take x.2.toNat).drop x.1.toNat
def partsAll (b k body : List UInt8) (l : List (Int × Int)) : List UInt8 := l.flatMap (partOne b k body)
def partsEnd (b : List UInt8) : List UInt8 := [13, 10, 45, 45] ++ b ++ [45, 45] ++ [13, 10]
def partsT (b k body : List UInt8) (l : List (Int × Int)) : List UInt8 := partsAll b k body l ++ partsEnd b
def partsE (b k body : List UInt8) (l : List (Int × Int)) : Int :=
  if isMk b = false ∨ Lib.contains body ([45, 45] ++ b) = true then 92 else if k.all isFld = false then 1 else if l ≠ [] ∧ areO l body.length = true then 0 else 91
def partsV (b k body : List UInt8) (l : List (Int × Int)) : Value := .tuple #[.string (if partsE b k body l = 0 then bs (partsT b k body l) else ⟨#[]⟩), .int .i64 (partsE b k body l)]

theorem tellL_le (a b n : Int) (h : isO a b n = true) (hn : n ≤ 9223372036854775807) : (tellL a b n).length ≤ 100 := by
  have ho := of_decide_eq_true h
  have := Lib.itoa_length_le n (by omega) (by omega)
  have := bytesL_le a b ho.1 ho.2.1 (by omega)
  unfold tellL; simp; omega
theorem partOne_le {b k body : List UInt8} {x : Int × Int} (h : isO x.1 x.2 body.length = true) (hn : b.length + k.length + body.length ≤ 1048576) : (partOne b k body x).length ≤ 1049000 := by
  have := tellL_le x.1 x.2 body.length h (by omega)
  unfold partOne mediaL rangedL
  simp; omega
theorem partsAll_take {b k body : List UInt8} {l : List (Int × Int)} {j : Nat} (h : j < l.length) : partsAll b k body (l.take (j + 1)) = partsAll b k body (l.take j) ++ partOne b k body l[j] := by
  unfold partsAll
  rw [List.take_succ_eq_append_getElem h, List.flatMap_append]; simp
theorem partsAll_le {b k body : List UInt8} {l : List (Int × Int)} (ha : areO l body.length = true) (hn : b.length + k.length + body.length ≤ 1048576) : (partsAll b k body l).length ≤ 1049000 * l.length := by
  induction l with
  | nil => simp [partsAll]
  | cons x l ih =>
    unfold areO at ha
    rw [List.all_cons, Bool.and_eq_true] at ha
    have h1 := partOne_le ha.1 hn
    have h2 := ih ha.2
    unfold partsAll at h2 ⊢
    rw [List.flatMap_cons, List.length_append, List.length_cons, Nat.mul_add]; omega
theorem cat_L (a b : ByteArray) : L (a ++ b) = L a ++ L b := by simp [L, ByteArray.data_append]
theorem part_cat {b k body T : ByteArray} {m n : Nat} (hT : L T = tellL m n body.size) (x : Int × Int) (hx1 : x.1 = m) (hx2 : x.2 = n) :
    (⟨#[13, 10, 45, 45]⟩ : ByteArray) ++ b ++ ⟨#[13, 10]⟩ ++ ⟨#[67, 111, 110, 116, 101, 110, 116, 45, 84, 121, 112, 101, 58, 32]⟩ ++ k ++ ⟨#[13, 10]⟩ ++ ⟨#[67, 111, 110, 116, 101, 110, 116, 45, 82, 97, 110, 103, 101, 58, 32]⟩ ++ T ++ ⟨#[13, 10]⟩ ++ ⟨#[13, 10]⟩ ++ body.extract m n = bs (partOne (L b) (L k) (L body) x) := by
  apply L_inj.1
  simp only [cat_L]
  rw [hT, extract_bs, L_bs, L_bs]
  unfold partOne
  rw [hx1, hx2, L_length]
  rfl
theorem end_cat (b : ByteArray) : (⟨#[13, 10, 45, 45]⟩ : ByteArray) ++ b ++ ⟨#[45, 45]⟩ ++ ⟨#[13, 10]⟩ = bs (partsEnd (L b)) := by
  apply L_inj.1
  simp only [cat_L]
  rfl
theorem builder_keep {T e : TypeId} {B b : Nat} {xs : List Value} {w w' : World} (h : Lib.IsBuilder T e B b xs w) (hb : Below w.heap.size w w') : Lib.IsBuilder T e B b xs w' := by
  have key : ∀ {p : Value}, Lib.BuilderAt T e B b p xs w → Lib.BuilderAt T e B b p xs w' := by
    rintro p ⟨h1, v, h2, h3, h4⟩
    have hlt : b < w.heap.size := (Array.getElem?_eq_some_iff.1 h2).1
    exact ⟨h1, v, (hb.block b hlt).trans h2, own_keep h3 hb (Nat.le_refl _), h4⟩
  exact h.elim (fun x => Or.inl (key x)) (fun x => Or.inr (key x))
theorem builder_text {T e : TypeId} {B b : Nat} {p : Value} {l : List UInt8} {s : ByteArray} {w : World} (h : Lib.BuilderAt T e B b p (Lib.byteCells l ++ Lib.strCells s) w) : Lib.BuilderAt T e B b p (Lib.byteCells (l ++ L s)) w := by
  have e1 : Lib.byteCells (l ++ L s) = Lib.byteCells l ++ Lib.strCells s := by
    unfold Lib.byteCells Lib.strCells L; rw [List.map_append]
  rw [e1]; exact h

set_option maxRecDepth 100000 in
theorem parts_any (b k body : ByteArray) (v : Value) (l : List (Int × Int)) (w : World) (hE : EnvP w) (h : SpanSl w v l) (hn : b.size + k.size + body.size + 3 * l.length ≤ 1048576) :
    Calls Tryz.prog 9 #[.string b, .string k, .string body, v] w fun e w' => e = .returned (partsV (L b) (L k) (L body) l) ∧ Below w.heap.size w w' := by
  have HE := Lib.hid hE; clear hE
  obtain ⟨V, hV⟩ := name_it (partsV (L b) (L k) (L body) l)
  rw [hV.out]
  have hm : Hid (V = partsV (L b) (L k) (L body) l) := hV.out.symm
  clear hV
  have HS := Lib.hid h
  have hLbody := L_length body
  have hcat : (⟨#[45, 45]⟩ : ByteArray) ++ b = bs ([45, 45] ++ L b) := bs_append [45, 45] (L b)
  have HCAT := Lib.hid hcat
  have hmk := isboundary_any b
  have hct := fun wx hx => contains_any body (bs ([45, 45] ++ L b)) wx hx (by omega)
  have hfl := fun wx => isfield_any k wx (by unfold maxLen; omega)
  have hrs := fun wx (hx : SpanSl wx v l) => areSpans_any v l body.size wx hx (by unfold maxLen; omega)
  rw [L_bs] at hct
  have hE0 : Hid (partsE (L b) (L k) (L body) l = if isMk (L b) = false ∨ Lib.contains (L body) ([45, 45] ++ L b) = true then 92 else if (L k).all isFld = false then 1 else if l ≠ [] ∧ areO l body.size = true then 0 else 91) := by
    unfold Hid partsE; rw [hLbody]
  obtain ⟨f1, hf1⟩ := name_it (isMk (L b))
  obtain ⟨f2, hf2⟩ := name_it (Lib.contains (L body) ([45, 45] ++ L b))
  obtain ⟨f3, hf3⟩ := name_it ((L k).all isFld)
  obtain ⟨f4, hf4⟩ := name_it (decide (l ≠ [] ∧ areO l body.size = true))
  rw [hf1.out] at hmk hE0
  rw [hf2.out] at hct hE0
  rw [hf3.out] at hfl hE0
  have hrs2 : ∀ wx, SpanSl wx v l → Calls Tryz.prog 26 #[v, .int .i64 body.size] wx fun e w' => e = .returned (.bool f4) ∧ Below wx.heap.size wx w' := by
    intro wx hx
    have := hrs wx hx
    rw [hf4.out] at this; exact this
  have HMK := Lib.hid hmk
  have HCT := Lib.hid hct
  have HFL := Lib.hid hfl
  have HRS := Lib.hid hrs2
  clear hcat hmk hct hfl hrs hrs2 h
  obtain ⟨a, cap, hva, hcells0⟩ := HS.out
  subst hva
  clear hcells0
  cases f1
  · have hv : Hid (V = .tuple #[.string ⟨#[]⟩, .int .i64 92]) := by
      have e := hE0.out
      rw [if_pos (Or.inl rfl)] at e
      unfold Hid; rw [hm.out]; unfold partsV; rw [e]; rfl
    clear hm hE0
    go_enter Tryz.func9, Tryz.ntmps9
    go_wp2_with (go_at_call 24; refine (HMK.out _ (by unfold maxLen; omega)).mono ?_; rintro e w' ⟨rfl, rfl⟩)
    go_ret2
    exact ⟨by rw [hv.out]; rfl, Below.refl _ _⟩
  cases f2
  case true =>
    have hv : Hid (V = .tuple #[.string ⟨#[]⟩, .int .i64 92]) := by
      have e := hE0.out
      rw [if_pos (Or.inr rfl)] at e
      unfold Hid; rw [hm.out]; unfold partsV; rw [e]; rfl
    clear hm hE0
    go_enter Tryz.func9, Tryz.ntmps9
    go_wp2_with (go_at_call 24; refine (HMK.out _ (by unfold maxLen; omega)).mono ?_; rintro e w' ⟨rfl, rfl⟩)
    all_goals (try (exfalso; omega))
    rw [HCAT.out]
    refine (HCT.out _ HE.out.env).mono ?_; rintro e w1 ⟨rfl, hb1⟩
    go_wp2_with fail
    go_ret2
    exact ⟨by rw [hv.out]; rfl, hb1⟩
  case false =>
  cases f3
  · have hv : Hid (V = .tuple #[.string ⟨#[]⟩, .int .i64 1]) := by
      have e := hE0.out
      rw [if_neg (by simp), if_pos rfl] at e
      unfold Hid; rw [hm.out]; unfold partsV; rw [e]; rfl
    clear hm hE0
    go_enter Tryz.func9, Tryz.ntmps9
    go_wp2_with (go_at_call 24; refine (HMK.out _ (by unfold maxLen; omega)).mono ?_; rintro e w' ⟨rfl, rfl⟩)
    all_goals (try (exfalso; omega))
    rw [HCAT.out]
    refine (HCT.out _ HE.out.env).mono ?_; rintro e w1 ⟨rfl, hb1⟩
    go_wp2_with (go_at_call 25; refine (HFL.out _).mono ?_; rintro e w' ⟨rfl, rfl⟩)
    go_ret2
    exact ⟨by rw [hv.out]; rfl, hb1⟩
  cases f4
  · have hv : Hid (V = .tuple #[.string ⟨#[]⟩, .int .i64 91]) := by
      have e := hE0.out
      rw [if_neg (by simp), if_neg (by simp), if_neg (of_decide_eq_false hf4.out)] at e
      unfold Hid; rw [hm.out]; unfold partsV; rw [e]; rfl
    clear hm hE0
    go_enter Tryz.func9, Tryz.ntmps9
    go_wp2_with (go_at_call 24; refine (HMK.out _ (by unfold maxLen; omega)).mono ?_; rintro e w' ⟨rfl, rfl⟩)
    all_goals (try (exfalso; omega))
    rw [HCAT.out]
    refine (HCT.out _ HE.out.env).mono ?_; rintro e w1 ⟨rfl, hb1⟩
    go_wp2_with (go_at_call 25; refine (HFL.out _).mono ?_; rintro e w' ⟨rfl, rfl⟩)
    refine (HRS.out _ (spanSl_keep HS.out hb1)).mono ?_; rintro e w2 ⟨rfl, hb2⟩
    have d2 := hb1.trans (hb2.mono hb1.size)
    go_wp2_with fail
    go_ret2
    exact ⟨by rw [hv.out]; rfl, d2⟩
  have hok := of_decide_eq_true hf4.out
  have hv : Hid (V = .tuple #[.string (bs (partsT (L b) (L k) (L body) l)), .int .i64 0]) := by
    have e := hE0.out
    rw [if_neg (by simp), if_neg (by simp), if_pos hok] at e
    unfold Hid; rw [hm.out]; unfold partsV; rw [e]; rfl
  have HOK := Lib.hid hok.2
  have hnL : (L b).length + (L k).length + (L body).length ≤ 1048576 := by rw [L_length, L_length, L_length]; omega
  have hle := fun j => partsAll_le (b := L b) (k := L k) (body := L body) (l := l.take j) (by
    rw [hLbody]
    exact List.all_eq_true.2 fun x hx => List.all_eq_true.1 HOK.out x (List.mem_of_mem_take hx)) hnL
  have HLE := Lib.hid hle
  have HEND := Lib.hid (end_cat b)
  clear hm hE0 hok hle hnL
  go_enter Tryz.func9, Tryz.ntmps9
  go_wp2_with (go_at_call 24; refine (HMK.out _ (by unfold maxLen; omega)).mono ?_; rintro e w' ⟨rfl, rfl⟩)
  all_goals (try (exfalso; omega))
  rw [HCAT.out]
  refine (HCT.out _ HE.out.env).mono ?_; rintro e w1 ⟨rfl, hb1⟩
  go_wp2_with (go_at_call 25; refine (HFL.out _).mono ?_; rintro e w' ⟨rfl, rfl⟩)
  refine (HRS.out _ (spanSl_keep HS.out hb1)).mono ?_; rintro e w2 ⟨rfl, hb2⟩
  have d2 := hb1.trans (hb2.mono hb1.size)
  have HS2 := Lib.hid (spanSl_keep HS.out d2)
  have HE2 := Lib.hid (HE.out.next d2)
  clear hb1 hb2 HS HE HRS HFL HCT HMK HCAT
  obtain ⟨a', cap', hva, hcells⟩ := HS2.out
  injection hva with q1 q2 q3
  subst q1 q3
  have HA := Lib.hid hcells
  clear hcells HS2
  obtain ⟨B, hBd⟩ : ∃ B, Hid (B = w2.heap.size) := ⟨_, rfl⟩
  have hBw : B = w2.heap.size := hBd.out
  have hwB : w.heap.size ≤ B := by rw [hBw]; exact d2.size
  go_wp2_with fail
  go_loopw [37] (fun i wr => ∃ (j : Nat), j ≤ l.length ∧ i = .int .i64 j ∧ Hid (Lib.IsBuilder 64 5 w2.heap.size w2.heap.size (Lib.byteCells (partsAll (L b) (L k) (L body) (l.take j))) wr) ∧ Below w2.heap.size w2 wr) (fun i _ => l.length - (intOf i).toNat)
  case atStart => exact ⟨0, Nat.zero_le _, rfl, Lib.hid (Lib.fresh_isBuilder _ _ w2), (Below.refl _ _).alloc (Nat.le_refl _) _⟩
  case round =>
    obtain ⟨j, hj, rfl, hbd, hbr⟩ := hrel
    have hBr := hbr.size
    have hlej := HLE.out j
    rw [List.length_take, Nat.min_eq_left hj] at hlej
    by_cases hlt : j < l.length
    · obtain ⟨ga, oa, rfl, hga, ha1, ha2⟩ := HA.out j hlt
      have hO := areO_at hlt HOK.out
      have hst := partsAll_take (b := L b) (k := L k) (body := L body) hlt
      obtain ⟨p1, hp1⟩ := name_it l[j].1
      obtain ⟨p2, hp2⟩ := name_it l[j].2
      rw [hp1.out] at ha1 hO; rw [hp2.out] at ha2 hO
      rw [← hbr.cell (p := ⟨ga, _, none⟩) hga] at ha1 ha2
      obtain ⟨o1, o2, o3⟩ := hO
      obtain ⟨m, rfl⟩ : ∃ m : Nat, p1 = m := ⟨p1.toNat, by omega⟩
      obtain ⟨n, rfl⟩ : ∃ n : Nat, p2 = n := ⟨p2.toNat, by omega⟩
      have hmn : m ≤ n := by omega
      have hns : n ≤ body.size := by omega
      have hiO : isO m n body.size = true := decide_eq_true ⟨by omega, by omega, by omega⟩
      have hTV : Hid (tellV m n body.size = .tuple #[.string (bs (tellL m n body.size)), .int .i64 0]) := by unfold Hid tellV; rw [hiO]; rfl
      have hTl := tellL_le m n body.size hiO (by omega)
      obtain ⟨T, hT⟩ := name_it (bs (tellL m n body.size))
      rw [hT.out] at hTV
      have hTs : T.size ≤ 100 := by rw [← hT.out, size_bs]; exact hTl
      have hpc := part_cat (b := b) (k := k) (body := body) (T := T) (m := m) (n := n) (by rw [← hT.out]; exact L_bs _) l[j] hp1.out hp2.out
      have HPC := Lib.hid hpc
      obtain ⟨P, hP⟩ := name_it (partOne (L b) (L k) (L body) l[j])
      rw [hP.out] at hst HPC
      have HST := Lib.hid hst
      obtain ⟨A, hA⟩ := name_it (partsAll (L b) (L k) (L body) (l.take j))
      rw [hA.out] at hbd hlej HST
      have hPl : P.length ≤ 1049000 := by
        rw [← hP.out]
        exact partOne_le (by rw [hp1.out, hp2.out, hLbody]; exact hiO) (by rw [L_length, L_length, L_length]; omega)
      have HEr := Lib.hid ((HE2.out.next hbr).alloc (.cells #[.int .i64 m, .int .i64 n] 38))
      have e0 := hbr.alloc hBr (.cells #[.int .i64 m, .int .i64 n] 38)
      have hbd0 := builder_keep hbd.out ((Below.refl _ _).alloc (Nat.le_refl _) (.cells #[.int .i64 m, .int .i64 n] 38))
      have HBD0 := Lib.hid hbd0
      clear hst hpc hT hP hA hbd0 hiO hTl
      go_wp2_with fail
      refine (tell_any m n body.size (by omega) (by omega) _ HEr.out).mono ?_; rintro e w3 ⟨rfl, hb3⟩
      rw [hTV.out]
      obtain ⟨hc, -, -, hbw⟩ := box_facts hb3
      have hc0 : w3.cell? ⟨wr.heap.size, 0, none⟩ = some (.int .i64 m) := hc 0
      have hc1 : w3.cell? ⟨wr.heap.size, 1, none⟩ = some (.int .i64 n) := hc 1
      have HBD3 := Lib.hid (builder_keep HBD0.out hb3)
      have d3 := e0.trans (hb3.mono e0.size)
      have hB3 := d3.size
      clear hb3 hc hbw HBD0 e0 hbd
      go_wp2_with fail
      all_goals (try (exfalso; omega))
      rw [HPC.out]
      refine (Tryz.Builder_WriteString w2.heap.size w2.heap.size _ (bs P) w3 HBD3.out (by rw [Lib.byteCells_length, size_bs]; omega) hB3).mono ?_; rintro e w4 ⟨rfl, hbd4, hb4⟩
      have HBD4 : Hid (Lib.IsBuilder 64 5 w2.heap.size w2.heap.size (Lib.byteCells (partsAll (L b) (L k) (L body) (l.take (j + 1)))) w4) := by
        have := builder_text hbd4
        rw [L_bs] at this
        unfold Hid; rw [HST.out]; exact Or.inr this
      have d4 := d3.trans hb4
      clear hbd4 hb4 d3
      go_wp2_with fail
      go_roundw
      case rel => exact ⟨j + 1, by omega, by go_num, HBD4, d4⟩
      case measure => simp [intOf]; omega
    · obtain rfl : j = l.length := by omega
      have hbd2 := hbd.out
      rw [List.take_length] at hbd2
      have hlej2 := HLE.out l.length
      rw [List.take_length] at hlej2
      obtain ⟨A, hA⟩ := name_it (partsAll (L b) (L k) (L body) l)
      rw [hA.out] at hbd2 hlej2
      have HBD := Lib.hid hbd2
      have hel : (partsEnd (L b)).length ≤ 1048600 := by unfold partsEnd; simp [L_length]; omega
      obtain ⟨E, hEn⟩ := name_it (partsEnd (L b))
      rw [hEn.out] at HEND hel
      have hvv : Hid (V = .tuple #[.string (bs (A ++ E)), .int .i64 0]) := by
        unfold Hid; rw [hv.out, ← hA.out, ← hEn.out]; rfl
      clear hbd2 hbd hv hA hEn
      go_wp2_with fail
      all_goals (try (exfalso; omega))
      rw [HEND.out]
      refine (Tryz.Builder_WriteString w2.heap.size w2.heap.size _ (bs E) _ HBD.out (by rw [Lib.byteCells_length, size_bs]; omega) hBr).mono ?_; rintro e w4 ⟨rfl, hbd4, hb4⟩
      have HBD4 : Hid (Lib.IsBuilder 64 5 w2.heap.size w2.heap.size (Lib.byteCells (A ++ E)) w4) := by
        have := builder_text hbd4
        rw [L_bs] at this
        exact Or.inr this
      have d4 := hbr.trans hb4
      clear hbd4 hb4
      go_wp2_with fail
      refine (Tryz.Builder_String_any _ _ (A ++ E) _ HBD4.out d4.size).mono ?_; rintro e w5 ⟨rfl, hb5⟩
      have d5 := d2.trans ((d4.trans hb5).mono d2.size)
      go_wp2_with fail
      go_ret2
      exact ⟨by rw [hvv.out]; rfl, d5⟩
end Go.Proofs.YtnodboggemggmaaGreatDoor
