/- Contract of the document: a body in parts. -/
import Derived.Test.YtnodboggemggmaaDoorPartsA
import Derived.Test.YtnodboggemggmaaDoorPrintB
import Derived.Deep.RegionHeld3
namespace Go.Proofs.YtnodboggemggmaaDoor
open Go Go.RowKit
set_option maxHeartbeats 2000000

/-- 'append(v, s...)' at a step of a region that draws, v a row of bytes of the call's own, s a text -/
theorem step_appendS {w : World} {ops : Array Oper} {o : Oper} {a : Act} {K : Act → World → Prop} {Q : Exit → Act → World → Prop} {E : Prop} (hgd : o.guard = none) (sl x : Operand) (t : TypeId)
    (ho : o.op = .call { callee := .builtin .append, args := #[sl, x], argTypes := #[t, 9] }) (ht : Tryd.prog.underlying t = some (.slice 5))
    (base : Nat) {v : Value} {l : List UInt8} (hown : Bytes w base v l) (hs : a.eval sl = v) (s : ByteArray) (hx : a.eval x = .string s)
    (h63 : l.length + s.size ≤ 140737488355328) (hbase : base ≤ w.heap.size)
    (h : ∀ v' w', Bytes w' base v' (l ++ L s) → Below base w w' → K (a.put o.dst v') w') : if Region.wanted o (yielded ops a.tmps) = true then Oper.wp Tryd.prog o a w K Q else E := by
  have hw : Region.wanted o (yielded ops a.tmps) = true := by simp [Region.wanted, hgd]
  rw [if_pos hw]
  obtain ⟨i0, hi, hz0, hz1, hz2⟩ := info_parts infoByte
  obtain ⟨v', w', hr, h2, h3, h4⟩ := Lib.run_append_own_string (P := Tryd.prog) w base t 9 o.type 5 i0 ht Tryd.underlying9 hi hz0 hz1 hz2 v l.length _ hown s (by unfold maxLen; omega) h63 hbase
  unfold Oper.wp execOp
  simp only [ho, resolve, invoke, builtin, Sem.run_bind, Sem.run_pure, Result.andThen_ok, List.map_toArray, List.map_cons, List.map_nil, hs, hx, hr]
  refine h v' w' ?_ (own_below hown h3 hbase)
  have e1 : (l ++ L s).length = l.length + s.size := by rw [List.length_append, L_length]
  unfold Bytes
  rw [e1, List.map_append]
  exact h2

theorem rend_cat (A : List UInt8) (b : ByteArray) : bs A ++ (⟨#[13, 10]⟩ : ByteArray) ++ ⟨#[45, 45]⟩ ++ b ++ ⟨#[45, 45]⟩ ++ ⟨#[13, 10]⟩ = bs (A ++ partsEnd (L b)) := by
  apply L_inj.1
  simp only [cat_L, L_bs]
  unfold partsEnd
  simp [L]

set_option maxRecDepth 100000 in
theorem rparts_any (b k body : ByteArray) (v : Value) (l : List (Int × Int)) (w : World) (hE : EnvP w) (h : SpanSl w v l) (hn : b.size + k.size + body.size + 3 * l.length ≤ 1048576) (hbd : ∀ x, x ∈ l → x.2 ≤ 9223372036854775807) :
    Calls Tryd.prog 30 #[.string b, .string k, .string body, v] w fun e w' => e = .returned (partsV (L b) (L k) (L body) l) ∧ Below w.heap.size w w' := by
  have HE := Lib.hid hE; clear hE
  obtain ⟨V, hV⟩ := name_it (partsV (L b) (L k) (L body) l)
  rw [hV.out]
  have hm : Hid (V = partsV (L b) (L k) (L body) l) := hV.out.symm
  clear hV
  have HS := Lib.hid h
  have hLbody := L_length body
  have hcat : (⟨#[45, 45]⟩ : ByteArray) ++ b = bs ([45, 45] ++ L b) := bs_append [45, 45] (L b)
  have HCAT := Lib.hid hcat
  have hmk := fun wx => ismark_any b wx (by unfold maxLen; omega)
  have hct := fun wx => rstands_any body (bs ([45, 45] ++ L b)) wx (by omega) (by rw [size_bs]; simp [L_length]; omega)
  have hfl := fun wx => risfield_any k wx (by unfold maxLen; omega)
  rw [L_bs] at hct
  have hE0 : Hid (partsE (L b) (L k) (L body) l = if isMk (L b) = false ∨ Lib.contains (L body) ([45, 45] ++ L b) = true then 92 else if (L k).all isFld = false then 1 else if l ≠ [] ∧ areO l body.size = true then 0 else 91) := by
    unfold Hid partsE; rw [hLbody]
  obtain ⟨f1, hf1⟩ := name_it (isMk (L b))
  obtain ⟨f2, hf2⟩ := name_it (Lib.contains (L body) ([45, 45] ++ L b))
  obtain ⟨f3, hf3⟩ := name_it ((L k).all isFld)
  rw [hf1.out] at hmk hE0
  rw [hf2.out] at hct hE0
  rw [hf3.out] at hfl hE0
  have HMK := Lib.hid hmk
  have HCT := Lib.hid hct
  have HFL := Lib.hid hfl
  clear hcat hmk hct hfl h
  obtain ⟨a, cap, hva, hcells0⟩ := HS.out
  subst hva
  have HA := Lib.hid hcells0
  clear hcells0 HS
  cases f1
  · have hv : Hid (V = .tuple #[.string ⟨#[]⟩, .int .i64 92]) := by
      have e := hE0.out
      rw [if_pos (Or.inl rfl)] at e
      unfold Hid; rw [hm.out]; unfold partsV; rw [e]; rfl
    clear hm hE0
    go_enter Tryd.func30, Tryd.ntmps30
    go_wp2_with fail
    refine (HMK.out _).mono ?_; rintro e w1 ⟨rfl, hb1⟩
    go_wp2_with fail
    go_ret2
    exact ⟨by rw [hv.out]; rfl, hb1⟩
  cases f2
  case true =>
    have hv : Hid (V = .tuple #[.string ⟨#[]⟩, .int .i64 92]) := by
      have e := hE0.out
      rw [if_pos (Or.inr rfl)] at e
      unfold Hid; rw [hm.out]; unfold partsV; rw [e]; rfl
    clear hm hE0
    go_enter Tryd.func30, Tryd.ntmps30
    go_wp2_with fail
    refine (HMK.out _).mono ?_; rintro e w1 ⟨rfl, hb1⟩
    go_wp2_with fail
    all_goals (try (exfalso; omega))
    rw [HCAT.out]
    refine (HCT.out _).mono ?_; rintro e w2 ⟨rfl, hb2⟩
    have d2 := hb1.trans (hb2.mono hb1.size)
    go_wp2_with fail
    go_ret2
    exact ⟨by rw [hv.out]; rfl, d2⟩
  case false =>
  cases f3
  · have hv : Hid (V = .tuple #[.string ⟨#[]⟩, .int .i64 1]) := by
      have e := hE0.out
      rw [if_neg (by simp), if_pos rfl] at e
      unfold Hid; rw [hm.out]; unfold partsV; rw [e]; rfl
    clear hm hE0
    go_enter Tryd.func30, Tryd.ntmps30
    go_wp2_with fail
    refine (HMK.out _).mono ?_; rintro e w1 ⟨rfl, hb1⟩
    go_wp2_with fail
    all_goals (try (exfalso; omega))
    rw [HCAT.out]
    refine (HCT.out _).mono ?_; rintro e w2 ⟨rfl, hb2⟩
    have d2 := hb1.trans (hb2.mono hb1.size)
    go_wp2_with (go_at_call 65; refine (HFL.out _).mono ?_; rintro e w' ⟨rfl, rfl⟩)
    go_ret2
    exact ⟨by rw [hv.out]; rfl, d2⟩
  have hE1 := hE0.out
  rw [if_neg (by simp), if_neg (by simp)] at hE1
  have HE1 := Lib.hid hE1
  clear hE1 hE0
  rcases Nat.eq_zero_or_pos l.length with hl0 | hpos
  · have hv : Hid (V = .tuple #[.string ⟨#[]⟩, .int .i64 91]) := by
      have e := HE1.out
      rw [if_neg (fun hh => hh.1 (List.eq_nil_of_length_eq_zero hl0))] at e
      unfold Hid; rw [hm.out]; unfold partsV; rw [e]; rfl
    have hnl : ((l.length : Int) == 0) = true := by rw [hl0]; rfl
    clear hm HE1
    go_enter Tryd.func30, Tryd.ntmps30
    go_wp2_with fail
    refine (HMK.out _).mono ?_; rintro e w1 ⟨rfl, hb1⟩
    go_wp2_with fail
    all_goals (try (exfalso; omega))
    rw [HCAT.out]
    refine (HCT.out _).mono ?_; rintro e w2 ⟨rfl, hb2⟩
    have d2 := hb1.trans (hb2.mono hb1.size)
    go_wp2_with (go_at_call 65; refine (HFL.out _).mono ?_; rintro e w' ⟨rfl, rfl⟩)
    all_goals (try (exfalso; omega))
    go_ret2
    exact ⟨by rw [hv.out]; rfl, d2⟩
  have hnl : ((l.length : Int) == 0) = false := by simp; intro h; rw [h] at hpos; simp at hpos
  have hne : l ≠ [] := by intro h; rw [h] at hpos; simp at hpos
  have hv1 : Hid (areO l body.size = false → V = .tuple #[.string ⟨#[]⟩, .int .i64 91]) := by
    intro hq
    have e := HE1.out
    rw [if_neg (fun hh => by rw [hq] at hh; exact absurd hh.2 (by decide))] at e
    rw [hm.out]; unfold partsV; rw [e]; rfl
  have hv0 : Hid (areO l body.size = true → V = .tuple #[.string (bs (partsT (L b) (L k) (L body) l)), .int .i64 0]) := by
    intro hq
    have e := HE1.out
    rw [if_pos ⟨hne, hq⟩] at e
    rw [hm.out]; unfold partsV; rw [e]; rfl
  have hnL : (L b).length + (L k).length + (L body).length ≤ 1048576 := by rw [L_length, L_length, L_length]; omega
  have HLE : Hid (∀ j, areO (l.take j) body.size = true → (partsAll (L b) (L k) (L body) (l.take j)).length ≤ 1049000 * (l.take j).length) := fun j hj => partsAll_le (by rw [hLbody]; exact hj) hnL
  clear hm hne hnL
  go_enter Tryd.func30, Tryd.ntmps30
  go_wp2_with fail
  refine (HMK.out _).mono ?_; rintro e w1 ⟨rfl, hb1⟩
  go_wp2_with fail
  all_goals (try (exfalso; omega))
  rw [HCAT.out]
  refine (HCT.out _).mono ?_; rintro e w2 ⟨rfl, hb2⟩
  have d2 := hb1.trans (hb2.mono hb1.size)
  have HE2 := Lib.hid (HE.out.next d2)
  clear hb1 hb2 HCT HMK HCAT HE
  go_wp2_with (go_at_call 65; refine (HFL.out _).mono ?_; rintro e w' ⟨rfl, rfl⟩)
  all_goals (try (exfalso; omega))
  clear hnl HFL
  go_loopw [10, 11] (fun out i wr => ∃ j : Nat, j ≤ l.length ∧ i = .int .i64 j ∧ Hid (areO (l.take j) body.size = true) ∧ Hid (Bytes wr w2.heap.size out (partsAll (L b) (L k) (L body) (l.take j))) ∧ Below w2.heap.size w2 wr) (fun _ i _ => l.length - (intOf i).toNat)
  case atStart => exact ⟨0, Nat.zero_le _, rfl, rfl, own_empty w2 _ _ (Nat.le_refl _), (Below.refl _ _).alloc (Nat.le_refl _) _⟩
  case round =>
    obtain ⟨j, hj, rfl, hao, hby, hbr⟩ := hrel
    have hBr := hbr.size
    have hlej := HLE.out j hao.out
    rw [List.length_take, Nat.min_eq_left hj] at hlej
    by_cases hlt : j < l.length
    · obtain ⟨ga, oa, rfl, hga, ha1, ha2⟩ := HA.out j hlt
      have hno := areO_no (size := body.size) hlt
      have hyes := areO_take (size := body.size) hlt
      have hst := partsAll_take (b := L b) (k := L k) (body := L body) hlt
      obtain ⟨p1, hp1⟩ := name_it l[j].1
      obtain ⟨p2, hp2⟩ := name_it l[j].2
      obtain ⟨q, hq⟩ := name_it (isO p1 p2 body.size)
      rw [hp1.out] at ha1 hno hyes; rw [hp2.out] at ha2 hno hyes
      rw [hq.out] at hno hyes
      rw [hao.out] at hyes
      have hga2 : ga < w2.heap.size := Nat.lt_of_lt_of_le hga d2.size
      rw [← d2.cell (p := ⟨ga, _, none⟩) hga, ← hbr.cell (p := ⟨ga, _, none⟩) hga2] at ha1 ha2
      have HNO := Lib.hid hno
      have HYES := Lib.hid hyes
      have HEr := Lib.hid (HE2.out.next hbr)
      clear hno hyes hao
      cases q
      · have hf : Hid (V = .tuple #[.string ⟨#[]⟩, .int .i64 91]) := hv1.out (HNO.out rfl)
        have hTV : Hid (tellV p1 p2 body.size = .tuple #[.string ⟨#[]⟩, .int .i64 91]) := by unfold Hid tellV; rw [hq.out]; rfl
        have hz2 : p2 ≤ 9223372036854775807 := by rw [← hp2.out]; exact hbd _ (List.getElem_mem hlt)
        clear HNO HYES hv0 hv1 hst HLE
        go_wp2_with fail
        refine (rtell_any p1 p2 body.size hz2 (by omega) _ HEr.out).mono ?_; rintro e w3 ⟨rfl, hb3⟩
        rw [hTV.out]
        have d3 := d2.trans ((hbr.trans (hb3.mono hBr)).mono d2.size)
        go_wp2_with fail
        go_ret2
        exact ⟨by rw [hf.out]; rfl, d3⟩
      · obtain ⟨o1, o2, o3⟩ := (of_decide_eq_true hq.out : 0 ≤ p1 ∧ p1 < p2 ∧ p2 ≤ (body.size : Int))
        obtain ⟨m, rfl⟩ : ∃ m : Nat, p1 = m := ⟨p1.toNat, by omega⟩
        obtain ⟨n, rfl⟩ : ∃ n : Nat, p2 = n := ⟨p2.toNat, by omega⟩
        have hmn : m ≤ n := by omega
        have hns : n ≤ body.size := by omega
        have hTV : Hid (tellV m n body.size = .tuple #[.string (bs (tellL m n body.size)), .int .i64 0]) := by unfold Hid tellV; rw [hq.out]; rfl
        have hTl := tellL_le m n body.size hq.out (by omega)
        obtain ⟨T, hT⟩ := name_it (bs (tellL m n body.size))
        rw [hT.out] at hTV
        have hTs : T.size ≤ 100 := by rw [← hT.out, size_bs]; exact hTl
        have hpc := part_cat (b := b) (k := k) (body := body) (T := T) (m := m) (n := n) (by rw [← hT.out]; exact L_bs _) l[j] hp1.out hp2.out
        have HPC := Lib.hid hpc
        obtain ⟨P, hP⟩ := name_it (partOne (L b) (L k) (L body) l[j])
        rw [hP.out] at hst HPC
        have HST := Lib.hid hst
        obtain ⟨A, hA⟩ := name_it (partsAll (L b) (L k) (L body) (l.take j))
        rw [hA.out] at hby hlej HST
        have hPl : P.length ≤ 1049000 := by
          rw [← hP.out]
          exact partOne_le (by rw [hp1.out, hp2.out, hLbody]; exact hq.out) (by rw [L_length, L_length, L_length]; omega)
        clear hst hpc hT hP hA hTl HNO hv0 hv1 HLE
        go_wp2_with fail
        refine (rtell_any m n body.size (by omega) (by omega) _ HEr.out).mono ?_; rintro e w3 ⟨rfl, hb3⟩
        rw [hTV.out]
        rw [← hb3.cell (p := ⟨ga, _, none⟩) (Nat.lt_of_lt_of_le hga2 hBr)] at ha1 ha2
        have hby3 : Hid (Bytes w3 w2.heap.size _ A) := bytes_keep hby.out hb3 (Nat.le_refl _)
        have d3 := hbr.trans (hb3.mono hBr)
        have hB3 := d3.size
        have hby4 : Hid (Bytes w3.drew w2.heap.size _ A) := bytes_keep hby3.out ((Below.refl _ _).drew) (Nat.le_refl _)
        have d4 := d3.trans ((Below.refl w2.heap.size w3).drew)
        have hB4 : w2.heap.size ≤ w3.drew.heap.size := d4.size
        have hga3 : ga < w3.heap.size := Nat.lt_of_lt_of_le hga2 hB3
        clear hb3 hby hbr HEr
        have b1 : (0 : Int) ≤ (j : Int) := by omega
        have b2 : (j : Int) < (l.length : Int) := by omega
        have g1 : (0 : Int) ≤ (m : Int) := by omega
        have g2 : (m : Int) ≤ (n : Int) := by omega
        have g3 : (n : Int) ≤ (body.size : Int) := by omega
        have s1 : ¬ 9223372036854775807 < 4 + b.size := by omega
        have s2 : ¬ 9223372036854775807 < 4 + b.size + 2 := by omega
        have s3 : ¬ 9223372036854775807 < 4 + b.size + 2 + 14 := by omega
        have s4 : ¬ 9223372036854775807 < 4 + b.size + 2 + 14 + k.size := by omega
        have s5 : ¬ 9223372036854775807 < 4 + b.size + 2 + 14 + k.size + 2 := by omega
        have s6 : ¬ 9223372036854775807 < 4 + b.size + 2 + 14 + k.size + 2 + 15 := by omega
        have s7 : ¬ 9223372036854775807 < 4 + b.size + 2 + 14 + k.size + 2 + 15 + T.size := by omega
        have s8 : ¬ 9223372036854775807 < 4 + b.size + 2 + 14 + k.size + 2 + 15 + T.size + 2 := by omega
        have s9 : ¬ 9223372036854775807 < 4 + b.size + 2 + 14 + k.size + 2 + 15 + T.size + 2 + 2 := by omega
        have s10 : ¬ 9223372036854775807 < 4 + b.size + 2 + 14 + k.size + 2 + 15 + T.size + 2 + 2 + (n - m) := by omega
        have s11 : ¬ 9223372036854775807 < 4 + b.size + 2 + 14 + k.size + 2 + 15 + T.size + 2 + 2 + (min n body.size - m) := by omega
        go_wp2_with fail
        go_region_held3 (fun w' => w'.cell? ⟨ga, oa + j * 2, none⟩ = some (.int .i64 m) ∧ w'.cell? ⟨ga, oa + j * 2 + 1, none⟩ = some (.int .i64 n))
          (first | go_keep | exact ⟨(hb5.cell (p := ⟨ga, _, none⟩) hga2).trans ha1, (hb5.cell (p := ⟨ga, _, none⟩) hga2).trans ha2⟩)
          ((refine step_appendS (by rfl) _ _ 95 (by rfl) Tryd.underlying95 w2.heap.size hby4.out (by rfl) (bs P) (by rw [← HPC.out]; rfl) (by rw [size_bs]; omega) hB4 ?_; intro v5 w5 hby5 hb5))
        have hby6 : Hid (Bytes w5 w2.heap.size v5 (partsAll (L b) (L k) (L body) (l.take (j + 1)))) := by unfold Hid; rw [HST.out]; exact hby5
        have d5 := d4.trans hb5
        clear hby5 hb5
        go_wp2_with fail
        go_roundw
        case rel => exact ⟨j + 1, by omega, by go_num, HYES, hby6, d5⟩
        case measure => simp [intOf]; omega
    · obtain rfl : j = l.length := by omega
      have hao2 := hao.out
      rw [List.take_length] at hao2
      have hf := hv0.out hao2
      have hby2 := hby.out
      rw [List.take_length] at hby2 hlej
      obtain ⟨A, hA⟩ := name_it (partsAll (L b) (L k) (L body) l)
      rw [hA.out] at hby2 hlej
      have HRC := Lib.hid (rend_cat A b)
      have hel : (partsEnd (L b)).length ≤ 1048600 := by unfold partsEnd; simp [L_length]; omega
      have hff : Hid (V = .tuple #[.string (bs (A ++ partsEnd (L b))), .int .i64 0]) := by
        unfold Hid; rw [hf, ← hA.out]; rfl
      have hAs : (bs A).size ≤ 1049000 * l.length := by rw [size_bs]; exact hlej
      have hconv := own_string (P := Tryd.prog) 95 9 5 hby2 Tryd.underlying95 Tryd.underlying5 Tryd.underlying9
      have HBY := Lib.hid hby2
      have d5 := d2.trans (hbr.mono d2.size)
      clear hf hby2 hby hA hv0 hv1 HLE hao hao2
      go_wp2_with fail
      all_goals (try (exfalso; omega))
      go_ret2
      exact ⟨by rw [hff.out, ← HRC.out]; rfl, d5⟩
end Go.Proofs.YtnodboggemggmaaDoor
