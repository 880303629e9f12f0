/- TagOwn: what is decided of a resource's own tag and of another one, plain; the walk of the law. -/
import Derived.Test.YtjalfddedikibaaGreatDoorTagMeJ
namespace Go.Proofs.YtjalfddedikibaaGreatDoor
open Go Go.RowKit
set_option maxHeartbeats 8000000

theorem listT_print (t : Tg) (h : goodT t = true) : listT (printL t) = ⟨[t], false, 0, 0⟩ := by
  obtain ⟨c, x, e, h1, h2⟩ := printL_head t
  have hl : trimL (printL t) = printL t := by rw [e, trimL_cons_no _ _ h1]
  have hr : trimR (printL t) = printL t := by
    have e2 : printL t = ((if t.1 = true then [87, 47] else []) ++ ([34] ++ t.2)) ++ [34] := by unfold printL; simp
    rw [e2, trimR_snoc_no _ _ (by decide)]
  have ht : trim (printL t) = printL t := by unfold trim; rw [hl, hr]
  have hG : GL true [] (printL t) [t] := by
    have h0 : GL false ([] ++ [t]) [] [t] := fun pos => by rw [lsT_nil]; rfl
    have := GL.tag h h0
    rwa [List.append_nil] at this
  have hns : trim (printL t) ≠ [42] := by
    rw [ht]
    intro he
    have := hG 0
    rw [he, lsT_wrong (t := noT) (n := 0) (by decide) (by decide) (by decide) (by decide)] at this
    cases this
  refine listT_good hns ?_
  rw [ht]
  exact hG _
theorem decide_match1 (rd : Bool) (s : Sta) (v : Tx) : decideT rd s 0 [(nmIM, v)] = if metT strongT s [v] = true then 0 else 412 := by
  have e1 : valuesF [(nmIM, v)] nmIM = [v] := by unfold valuesF; rfl
  have e2 : valuesF [(nmIM, v)] nmIN = [] := by unfold valuesF; rfl
  have e3 : valuesF [(nmIM, v)] nmID = [] := by unfold valuesF; rfl
  rw [decide_eq]
  unfold decideR laterR
  rw [e1, e2, e3, if_neg (by simp)]
  split
  · rw [if_pos rfl]
    unfold dateT
    cases rd <;> rfl
  · rfl
theorem decide_none1 (rd : Bool) (s : Sta) (v : Tx) : decideT rd s 0 [(nmIN, v)] = if metT alikeT s [v] = true then (if rd = true then 304 else 412) else 0 := by
  have e1 : valuesF [(nmIN, v)] nmIM = [] := by unfold valuesF; rfl
  have e2 : valuesF [(nmIN, v)] nmIN = [v] := by unfold valuesF; rfl
  have e3 : valuesF [(nmIN, v)] nmIU = [] := by unfold valuesF; rfl
  rw [decide_eq]
  unfold decideR laterR
  have e4 : dateT 0 [] = (0, false) := rfl
  rw [e1, e2, e3, e4, if_pos rfl, if_neg (by simp), if_neg (by simp)]
theorem met_tag (V : Tg → Tg → Bool) (st tg : Bool) (t u : Tg) (tm : Int) (td : Bool) (h : goodT u = true) : metT V ⟨st, t, tg, tm, td⟩ [printL u] = (st && (tg && V u t)) := by
  unfold metT
  rw [Lib.join_one, listT_print u h]
  cases st <;> cases tg <;> simp
theorem met_star (V : Tg → Tg → Bool) (s : Sta) : metT V s [[42]] = s.there := by
  unfold metT
  rw [Lib.join_one, listT_star (by decide)]
  simp
/-- what the law has laid -/
structure OW (w W : World) (m0 m7 m10 : Nat) (BO OT M T : ByteArray) (k : Bool) : Prop where
  env : EnvM W
  own : Blk W m0 48 #[.string BO, .string OT, .string M, .bool k]
  tag : Blk W m7 tT #[.bool k, .string T]
  sta : Blk W m10 tSt #[.bool true, .bool k, .string T, .bool true, .int .i64 0, .bool false]
  below : Below w.heap.size w W
theorem OW.next {w W W' : World} {m0 m7 m10 : Nat} {BO OT M T : ByteArray} {k : Bool} (h : OW w W m0 m7 m10 BO OT M T k) (hb : Below W.heap.size W W') : OW w W' m0 m7 m10 BO OT M T k :=
  ⟨h.env.next hb, h.own.below hb h.own.lt, h.tag.below hb h.tag.lt, h.sta.below hb h.sta.lt, h.below.trans (hb.mono h.below.size)⟩
theorem fd_sum1 (a b : Tx) (h : a.length + b.length + 2 ≤ 1048576) : fSum [(a, b)] ≤ 1048576 := by
  unfold fSum; simpa using h

set_option maxRecDepth 100000 in
theorem lawOwn_any (BO OT M : ByteArray) (k : Bool) (w : World) (hE : EnvM w) (hs : BO.size ≤ 1048576) (ho : OT.size ≤ 1048576) :
    Calls Tryz.prog 6 #[.agg #[.string BO, .string OT, .string M, .bool k]] w fun e w' => e = .returned (.bool true) ∧ Below w.heap.size w w' := by
  have hlb := L_length BO
  have hlo := L_length OT
  have hg1 := makeT_good k (L BO) (by omega)
  have hg2 := makeT_good false (L OT) (by omega)
  have hp1 := printL_len (k, makeT (L BO))
  have hp2 := printL_len (false, makeT (L OT))
  have hq1 := (good_parts hg1).2
  have hq2 := (good_parts hg2).2
  simp only at hp1 hp2 hq1 hq2
  have MK := Lib.hid (fun wx (h : EnvM wx) => make_any BO k wx h hs)
  have MO := Lib.hid (fun wx (h : EnvM wx) => make_any OT false wx h ho)
  have PK := Lib.hid (fun wx => tprint_any k (bs (makeT (L BO))) wx (by rw [size_bs]; omega))
  have PO := Lib.hid (fun wx => tprint_any false (bs (makeT (L OT))) wx (by rw [size_bs]; omega))
  rw [L_bs, prV_yes hg1] at PK
  rw [L_bs, prV_yes hg2] at PO
  have AW := Lib.hid (fun wx (h : EnvM wx) => awake_any wx h.env)
  have D1 := Lib.hid (fun v W (h1 : EnvM W) (h2 : FdSl W v [(nmIN, printL (k, makeT (L BO)))]) => decide_any M v _ ⟨true, (k, makeT (L BO)), true, 0, false⟩ 0 W h1.env h2 (fd_sum1 _ _ (by show 13 + _ + 2 ≤ _; omega)))
  have D2 := Lib.hid (fun v W (h1 : EnvM W) (h2 : FdSl W v [(nmIM, printL (k, makeT (L BO)))]) => decide_any M v _ ⟨true, (k, makeT (L BO)), true, 0, false⟩ 0 W h1.env h2 (fd_sum1 _ _ (by show 8 + _ + 2 ≤ _; omega)))
  have D3 := Lib.hid (fun v W (h1 : EnvM W) (h2 : FdSl W v [(nmIM, [42])]) => decide_any M v _ ⟨true, (k, makeT (L BO)), true, 0, false⟩ 0 W h1.env h2 (fd_sum1 _ _ (by decide)))
  have D4 := Lib.hid (fun v W (h1 : EnvM W) (h2 : FdSl W v [(nmIM, [42])]) => decide_any M v _ ⟨false, (false, []), false, 0, false⟩ 0 W h1.env h2 (fd_sum1 _ _ (by decide)))
  have D5 := Lib.hid (fun v W (h1 : EnvM W) (h2 : FdSl W v [(nmIN, [42])]) => decide_any M v _ ⟨false, (false, []), false, 0, false⟩ 0 W h1.env h2 (fd_sum1 _ _ (by decide)))
  have D6 := Lib.hid (fun v W (h1 : EnvM W) (h2 : FdSl W v [(nmIM, printL (false, makeT (L OT)))]) => decide_any M v _ ⟨true, (k, makeT (L BO)), true, 0, false⟩ 0 W h1.env h2 (fd_sum1 _ _ (by show 8 + _ + 2 ≤ _; omega)))
  rw [decide_none1, met_tag _ _ _ _ _ _ _ hg1] at D1
  rw [decide_match1, met_tag _ _ _ _ _ _ _ hg1] at D2
  rw [decide_match1, met_star] at D3 D4
  rw [decide_none1, met_star] at D5
  rw [decide_match1, met_tag _ _ _ _ _ _ _ hg2] at D6
  have HR : Hid (readsT (L M) = ((M.toList == [71, 69, 84]) || (M.toList == [72, 69, 65, 68]))) := by
    unfold Hid readsT; rw [toList_L]; exact Bool.eq_iff_iff.2 (by simp)
  obtain ⟨rd, hrd⟩ := name_it (readsT (L M))
  rw [hrd.out] at HR D1
  have H1 : Hid ((if (true && (true && alikeT (k, makeT (L BO)) (k, makeT (L BO)))) = true then (if rd = true then 304 else 412) else 0) = (if rd = true then (304 : Int) else 412)) := by unfold Hid alikeT; simp
  have H2 : Hid ((if (true && (true && strongT (k, makeT (L BO)) (k, makeT (L BO)))) = true then 0 else 412) = (if k = true then (412 : Int) else 0)) := by unfold Hid strongT; cases k <;> simp
  have H6 : Hid (∃ n6 : Int, (if (true && (true && strongT (false, makeT (L OT)) (k, makeT (L BO)))) = true then 0 else 412) = n6 ∧ (n6 = 0 ∨ n6 = 412) ∧ ((k = true ∨ OT.size ≠ BO.size) → n6 = 412)) := by
    refine ⟨_, rfl, by split <;> simp, fun h => ?_⟩
    rw [if_neg]
    unfold strongT
    rcases h with rfl | h
    · simp
    · have hne : makeT (L OT) ≠ makeT (L BO) := fun e => h (by have := makeT_len_inj e; omega)
      simp [hne]
  rw [H1.out] at D1
  rw [H2.out] at D2
  obtain ⟨n6, h6, N6, N7⟩ := H6.out
  rw [h6] at D6
  have HN6 := Lib.hid N6
  have HN7 := Lib.hid N7
  clear H1 H2 H6 h6 N6 N7 hrd
  unfold encSt at D1 D2 D3 D4 D5 D6
  simp only at D1 D2 D3 D4 D5 D6
  have e0 : bs [] = (⟨#[]⟩ : ByteArray) := rfl
  rw [e0] at D4 D5
  simp only [if_true, Bool.false_eq_true, if_false] at D3 D4 D5
  have GA : Hid (∀ (w' : World) (X : ByteArray), X = bs (printL (k, makeT (L BO))) → FdSl (w'.alloc (.cells #[.string ⟨#[73, 102, 45, 78, 111, 110, 101, 45, 77, 97, 116, 99, 104]⟩, .string X] tF)) (.slice (some ⟨w'.heap.size, 0, none⟩) 1 1) [(nmIN, printL (k, makeT (L BO)))]) := fun w' X h => fd_one w' _ _ _ _ rfl h
  have GB : Hid (∀ (w' : World) (X : ByteArray), X = bs (printL (k, makeT (L BO))) → FdSl (w'.alloc (.cells #[.string ⟨#[73, 102, 45, 77, 97, 116, 99, 104]⟩, .string X] tF)) (.slice (some ⟨w'.heap.size, 0, none⟩) 1 1) [(nmIM, printL (k, makeT (L BO)))]) := fun w' X h => fd_one w' _ _ _ _ rfl h
  have GC : Hid (∀ (w' : World), FdSl (w'.alloc (.cells #[.string ⟨#[73, 102, 45, 77, 97, 116, 99, 104]⟩, .string ⟨#[42]⟩] tF)) (.slice (some ⟨w'.heap.size, 0, none⟩) 1 1) [(nmIM, [42])]) := fun w' => fd_one w' _ _ _ _ rfl rfl
  have GD : Hid (∀ (w' : World), FdSl (w'.alloc (.cells #[.string ⟨#[73, 102, 45, 78, 111, 110, 101, 45, 77, 97, 116, 99, 104]⟩, .string ⟨#[42]⟩] tF)) (.slice (some ⟨w'.heap.size, 0, none⟩) 1 1) [(nmIN, [42])]) := fun w' => fd_one w' _ _ _ _ rfl rfl
  have GE : Hid (∀ (w' : World) (X : ByteArray), X = bs (printL (false, makeT (L OT))) → FdSl (w'.alloc (.cells #[.string ⟨#[73, 102, 45, 77, 97, 116, 99, 104]⟩, .string X] tF)) (.slice (some ⟨w'.heap.size, 0, none⟩) 1 1) [(nmIM, printL (false, makeT (L OT)))]) := fun w' X h => fd_one w' _ _ _ _ rfl h
  obtain ⟨S, hS⟩ := name_it (bs (printL (k, makeT (L BO))))
  obtain ⟨U, hU⟩ := name_it (bs (printL (false, makeT (L OT))))
  rw [hS.out] at PK GA GB
  rw [hU.out] at PO GE
  obtain ⟨T, hT⟩ := name_it (bs (makeT (L BO)))
  obtain ⟨V, hV⟩ := name_it (bs (makeT (L OT)))
  simp only [hT.out] at MK PK D1 D2 D3 D6
  simp only [hV.out] at MO PO
  have A0 : Hid (Blk (w.alloc (.cells #[.string BO, .string OT, .string M, .bool k] 48)) w.heap.size 48 #[.string BO, .string OT, .string M, .bool k]) := Blk.new w _ _
  have hb0 : Below w.heap.size w (w.alloc (.cells #[.string BO, .string OT, .string M, .bool k] 48)) := (Below.refl _ _).alloc (Nat.le_refl _) _
  have E0 := Lib.hid (hE.next hb0)
  have B0 := Lib.hid hb0
  clear hE hb0 hg1 hg2 hp1 hp2 hq1 hq2 hS hU hT hV e0 hlb hlo
  go_enter Tryz.func6, Tryz.ntmps6
  go_wp2_with fail
  obtain ⟨m0, hm0⟩ := name_it w.heap.size
  rw [hm0.out] at A0 ⊢
  obtain ⟨w0, hw0⟩ := name_it (w.alloc (.cells #[.string BO, .string OT, .string M, .bool k] 48))
  rw [hw0.out] at A0 E0 B0 ⊢
  clear hw0
  have x0 : w0.cell? ⟨m0, 0, none⟩ = some (.string BO) := A0.out.cell 0
  have x1 : w0.cell? ⟨m0, 1, none⟩ = some (.string OT) := A0.out.cell 1
  have x2 : w0.cell? ⟨m0, 2, none⟩ = some (.string M) := A0.out.cell 2
  have x3 : w0.cell? ⟨m0, 3, none⟩ = some (.bool k) := A0.out.cell 3
  go_quiet (fail)
  have A0n : Hid (Blk (w0.drewN nq) m0 48 #[.string BO, .string OT, .string M, .bool k]) := A0.out.below (below_of_drewN nq) A0.out.lt
  have E0n := Lib.hid (E0.out.next (below_of_drewN nq))
  have B0n := Lib.hid (below_drewN B0.out nq)
  obtain ⟨w1, hw1⟩ := name_it (w0.drewN nq)
  rw [hw1.out] at A0n E0n B0n ⊢
  clear hw1 x0 x1 x2 x3 A0 E0 B0
  go_wp2_with fail
  refine (AW.out _ E0n.out).mono ?_; rintro e wa ⟨rfl, ba⟩
  have A1 := Lib.hid (A0n.out.below ba A0n.out.lt)
  have E1 := Lib.hid (E0n.out.next ba)
  have B1 := Lib.hid (B0n.out.trans (ba.mono B0n.out.size))
  clear ba A0n E0n B0n AW
  go_wp2_with fail
  refine (MK.out _ E1.out).mono ?_; rintro e w2 ⟨rfl, b2⟩
  have A2 := Lib.hid ((A1.out.below b2 A1.out.lt).alloc (.cells #[.bool k, .string T] tT))
  have C2 : Hid (Blk (w2.alloc (.cells #[.bool k, .string T] tT)) w2.heap.size tT #[.bool k, .string T]) := Blk.new w2 tT _
  have E2 : Hid (EnvM (w2.alloc (.cells #[.bool k, .string T] tT))) := (E1.out.next b2).next ((Below.refl _ _).alloc (Nat.le_refl _) _)
  have B2 : Hid (Below w.heap.size w (w2.alloc (.cells #[.bool k, .string T] tT))) := (B1.out.trans (b2.mono B1.out.size)).alloc (B1.out.trans (b2.mono B1.out.size)).size _
  clear b2 A1 E1 B1 MK
  have c1 : (w2.alloc (.cells #[.bool k, .string T] tT)).cell? ⟨w2.heap.size, 0, none⟩ = some (.bool k) := C2.out.cell 0
  have c2 : (w2.alloc (.cells #[.bool k, .string T] tT)).cell? ⟨w2.heap.size, 1, none⟩ = some (.string T) := C2.out.cell 1
  go_wp2_with fail
  refine (PK.out _).mono ?_; rintro e w3 ⟨rfl, b3⟩
  have A3 := Lib.hid (A2.out.below b3 A2.out.lt)
  have C3 := Lib.hid (C2.out.below b3 C2.out.lt)
  have E3 := Lib.hid (E2.out.next b3)
  have B3 := Lib.hid (B2.out.trans (b3.mono B2.out.size))
  clear b3 A2 C2 E2 B2 PK c1 c2
  obtain ⟨m7, hm7⟩ := name_it w2.heap.size
  rw [hm7.out] at C3 ⊢
  clear hm7
  have c1 : w3.cell? ⟨m7, 0, none⟩ = some (.bool k) := C3.out.cell 0
  have c2 : w3.cell? ⟨m7, 1, none⟩ = some (.string T) := C3.out.cell 1
  have O4 : Hid (OW w (w3.alloc (.cells #[.bool true, .bool k, .string T, .bool true, .int .i64 0, .bool false] tSt)) m0 m7 w3.heap.size BO OT M T k) :=
    ⟨E3.out.next ((Below.refl _ _).alloc (Nat.le_refl _) _), A3.out.alloc _, C3.out.alloc _, Blk.new w3 tSt _, B3.out.alloc B3.out.size _⟩
  have CS : Hid (∀ m W, OW w W m0 m7 m BO OT M T k → W.cell? ⟨m, 0, none⟩ = some (.bool true) ∧ W.cell? ⟨m, 1, none⟩ = some (.bool k) ∧ W.cell? ⟨m, 2, none⟩ = some (.string T) ∧ W.cell? ⟨m, 3, none⟩ = some (.bool true) ∧ W.cell? ⟨m, 4, none⟩ = some (.int .i64 0) ∧ W.cell? ⟨m, 5, none⟩ = some (.bool false)) :=
    fun m W h => ⟨h.sta.cell 0, h.sta.cell 1, h.sta.cell 2, h.sta.cell 3, h.sta.cell 4, h.sta.cell 5⟩
  have HQ : Hid ((M.toList == [71, 69, 84]) = true ∧ rd = true ∨ (M.toList == [71, 69, 84]) = false ∧ (M.toList == [72, 69, 65, 68]) = true ∧ rd = true ∨ (M.toList == [71, 69, 84]) = false ∧ (M.toList == [72, 69, 65, 68]) = false ∧ rd = false) := by
    have h := HR.out
    unfold Hid
    cases hx : (M.toList == [71, 69, 84]) <;> cases hy : (M.toList == [72, 69, 65, 68]) <;> rw [hx, hy] at h <;> simp at h <;> simp [h]
  clear HR A3 C3 E3 B3
  rcases HQ.out with ⟨hg1, hrd⟩ | ⟨hg1, hg2, hrd⟩ | ⟨hg1, hg2, hrd⟩
  all_goals
    subst hrd
    clear HQ
    first | rw [if_pos rfl] at D1 | rw [if_neg (by decide)] at D1
    go_wp2_with fail
    all_goals (try (exfalso; omega))
    have z4 : (w3.alloc (.cells #[.bool true, .bool k, .string T, .bool true, .int .i64 0, .bool false] tSt)).heap.size = w3.heap.size + 1 := Array.size_push ..
    have F5 := GA.out (w3.alloc (.cells #[.bool true, .bool k, .string T, .bool true, .int .i64 0, .bool false] tSt)) S rfl
    rw [z4] at F5
    have P5 := Lib.hid (O4.out.next ((Below.refl (w3.alloc (.cells #[.bool true, .bool k, .string T, .bool true, .int .i64 0, .bool false] tSt)).heap.size (w3.alloc (.cells #[.bool true, .bool k, .string T, .bool true, .int .i64 0, .bool false] tSt))).alloc (Nat.le_refl _) (.cells #[.string ⟨#[73, 102, 45, 78, 111, 110, 101, 45, 77, 97, 116, 99, 104]⟩, .string S] tF)))
    have DD5 := Lib.hid (D1.out _ ((w3.alloc (.cells #[.bool true, .bool k, .string T, .bool true, .int .i64 0, .bool false] tSt)).alloc (.cells #[.string ⟨#[73, 102, 45, 78, 111, 110, 101, 45, 77, 97, 116, 99, 104]⟩, .string S] tF)) P5.out.env F5)
    clear F5 z4 D1 GA
    refine DD5.out.mono ?_; rintro e w5 ⟨rfl, b5⟩
    have O5 := Lib.hid (P5.out.next b5)
    clear b5 DD5 P5 O4 c1 c2
    obtain ⟨m10, hm10⟩ := name_it w3.heap.size
    rw [hm10.out] at O5 ⊢
    clear hm10
    have F6 := GB.out w5 S rfl
    have P6 := Lib.hid (O5.out.next ((Below.refl w5.heap.size w5).alloc (Nat.le_refl _) (.cells #[.string ⟨#[73, 102, 45, 77, 97, 116, 99, 104]⟩, .string S] tF)))
    have DD6 := Lib.hid (D2.out _ (w5.alloc (.cells #[.string ⟨#[73, 102, 45, 77, 97, 116, 99, 104]⟩, .string S] tF)) P6.out.env F6)
    clear F6 D2 GB
    obtain ⟨q0, q1, q2, q3, q4, q5⟩ := CS.out _ _ P6.out
    go_wp2_with fail
    all_goals (try (exfalso; omega))
    refine DD6.out.mono ?_; rintro e w6 ⟨rfl, b6⟩
    have O6 := Lib.hid (P6.out.next b6)
    clear b6 DD6 P6 O5 q0 q1 q2 q3 q4 q5
    cases k
    all_goals
      first | rw [if_pos rfl] | rw [if_neg (by decide)]
      have GX := GC
      have F7 := GX.out w6
      have P7 := Lib.hid (O6.out.next ((Below.refl w6.heap.size w6).alloc (Nat.le_refl _) (.cells #[.string ⟨#[73, 102, 45, 77, 97, 116, 99, 104]⟩, .string ⟨#[42]⟩] tF)))
      have DD7 := Lib.hid (D3.out _ (w6.alloc (.cells #[.string ⟨#[73, 102, 45, 77, 97, 116, 99, 104]⟩, .string ⟨#[42]⟩] tF)) P7.out.env F7)
      clear F7 D3 GX
      obtain ⟨q0, q1, q2, q3, q4, q5⟩ := CS.out _ _ P7.out
      go_wp2_with fail
      all_goals (try (exfalso; omega))
      refine DD7.out.mono ?_; rintro e w7 ⟨rfl, b7⟩
      have O7 := Lib.hid (P7.out.next b7)
      clear b7 DD7 P7 O6 q0 q1 q2 q3 q4 q5
      have GX := GC
      have F8 := GX.out w7
      have P8 := Lib.hid (O7.out.next ((Below.refl w7.heap.size w7).alloc (Nat.le_refl _) (.cells #[.string ⟨#[73, 102, 45, 77, 97, 116, 99, 104]⟩, .string ⟨#[42]⟩] tF)))
      have DD8 := Lib.hid (D4.out _ (w7.alloc (.cells #[.string ⟨#[73, 102, 45, 77, 97, 116, 99, 104]⟩, .string ⟨#[42]⟩] tF)) P8.out.env F8)
      clear F8 D4 GX
      obtain ⟨q0, q1, q2, q3, q4, q5⟩ := CS.out _ _ P8.out
      go_wp2_with fail
      all_goals (try (exfalso; omega))
      refine DD8.out.mono ?_; rintro e w8 ⟨rfl, b8⟩
      have O8 := Lib.hid (P8.out.next b8)
      clear b8 DD8 P8 O7 q0 q1 q2 q3 q4 q5
      have F9 := GD.out w8
      have P9 := Lib.hid (O8.out.next ((Below.refl w8.heap.size w8).alloc (Nat.le_refl _) (.cells #[.string ⟨#[73, 102, 45, 78, 111, 110, 101, 45, 77, 97, 116, 99, 104]⟩, .string ⟨#[42]⟩] tF)))
      have DD9 := Lib.hid (D5.out _ (w8.alloc (.cells #[.string ⟨#[73, 102, 45, 78, 111, 110, 101, 45, 77, 97, 116, 99, 104]⟩, .string ⟨#[42]⟩] tF)) P9.out.env F9)
      clear F9 D5 GD
      obtain ⟨q0, q1, q2, q3, q4, q5⟩ := CS.out _ _ P9.out
      go_wp2_with fail
      all_goals (try (exfalso; omega))
      refine DD9.out.mono ?_; rintro e w9 ⟨rfl, b9⟩
      have O9 := Lib.hid (P9.out.next b9)
      clear b9 DD9 P9 O8 q0 q1 q2 q3 q4 q5
      go_wp2_with fail
      all_goals (try (exfalso; omega))
      refine (MO.out _ O9.out.env).mono ?_; rintro e w10 ⟨rfl, b10⟩
      have O10 := Lib.hid (O9.out.next b10)
      clear b10 O9 MO
      go_wp2_with fail
      all_goals (try (exfalso; omega))
      refine (PO.out _).mono ?_; rintro e w11 ⟨rfl, b11⟩
      have O11 := Lib.hid (O10.out.next b11)
      clear b11 O10 PO
      cases hus : (U.toList == S.toList) with
      | true =>
        go_wp2_with fail
        all_goals (try (exfalso; omega))
        go_ret
        exact ⟨ret_bool (by simp), O11.out.below⟩
      | false =>
        have F12 := GE.out w11 U rfl
        have P12 := Lib.hid (O11.out.next ((Below.refl w11.heap.size w11).alloc (Nat.le_refl _) (.cells #[.string ⟨#[73, 102, 45, 77, 97, 116, 99, 104]⟩, .string U] tF)))
        have DD12 := Lib.hid (D6.out _ (w11.alloc (.cells #[.string ⟨#[73, 102, 45, 77, 97, 116, 99, 104]⟩, .string U] tF)) P12.out.env F12)
        clear F12 D6 GE
        obtain ⟨q0, q1, q2, q3, q4, q5⟩ := CS.out _ _ P12.out
        go_wp2_with fail
        all_goals (try (exfalso; omega))
        refine DD12.out.mono ?_; rintro e w12 ⟨rfl, b12⟩
        have O12 := Lib.hid (P12.out.next b12)
        clear b12 DD12 P12 O11 q0 q1 q2 q3 q4 q5
        by_cases hl : OT.size = BO.size
        · have hlb : ((OT.size : Int) == (BO.size : Int)) = true := by rw [hl]; simp
          have hlc : ((OT.size : Int) != (BO.size : Int)) = false := by rw [hl]; simp
          rcases HN6.out with h6 | h6
          · subst h6
            have h7 := HN7.out
            first
              | (exfalso; have h8 := h7; simp at h8; done)
              | (clear h7
                 go_wp2_with fail
                 all_goals (try (exfalso; omega))
                 go_ret
                 exact ⟨ret_bool (by simp), O12.out.below⟩)
          · subst h6
            go_wp2_with fail
            all_goals (try (exfalso; omega))
            go_ret
            exact ⟨ret_bool (by simp), O12.out.below⟩
        · have h6 := HN7.out (Or.inr hl)
          subst h6
          have hlc : ((OT.size : Int) != (BO.size : Int)) = true := by simp; omega
          go_wp2_with fail
          all_goals (try (exfalso; omega))
          go_ret
          exact ⟨ret_bool (by simp), O12.out.below⟩
end Go.Proofs.YtjalfddedikibaaGreatDoor
