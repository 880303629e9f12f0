/- TagMakes: unlike lengths, unlike tags, plain; the walk of the law. -/
import Derived.Test.YtjalfddedikibaaGreatDoorTagMdJ
import Derived.Test.YtjalfddedikibaaGreatDoorMh
import Derived.Test.YtjalfddedikibaaGreatDoorMg
namespace Go.Proofs.YtjalfddedikibaaGreatDoor
open Go Go.RowKit
set_option maxHeartbeats 4000000

def numL (l : List UInt8) : Nat := l.foldl (fun n c => 10 * n + (c.toNat - 48)) 0
theorem numL_snoc (l : List UInt8) (c : UInt8) : numL (l ++ [c]) = 10 * numL l + (c.toNat - 48) := by unfold numL; rw [List.foldl_append]; rfl
theorem numL_dec : ∀ (k u : Nat), u ≤ k → numL (Lib.decDigits u) = u
  | 0, u, h => by
    obtain rfl : u = 0 := by omega
    rw [decDigits_step, if_pos (by decide)]
    rfl
  | k + 1, u, h => by
    have hd := digC_toNat u
    rw [decDigits_step, numL_snoc]
    by_cases h0 : u / 10 = 0
    · rw [if_pos h0]
      show 10 * 0 + _ = _
      omega
    · rw [if_neg h0, numL_dec k (u / 10) (by omega)]
      omega
theorem decDigits_inj {a b : Nat} (h : Lib.decDigits a = Lib.decDigits b) : a = b := by
  have := congrArg numL h
  rwa [numL_dec a a (Nat.le_refl _), numL_dec b b (Nat.le_refl _)] at this
theorem makeT_len_inj {a b : List UInt8} (h : makeT a = makeT b) : a.length = b.length := by
  unfold makeT at h
  have ha : (hexL (bytesH (hashI a) 8) ++ [45]).length = (hexL (bytesH (hashI b) 8) ++ [45]).length := by
    simp only [List.length_append, hexL_len, bytesH_len]
  exact decDigits_inj (List.append_inj_right h ha)
theorem hexD_in (j : Nat) (h : j < 16) : inT (hexD j) = true := by
  have hc : j = 0 ∨ j = 1 ∨ j = 2 ∨ j = 3 ∨ j = 4 ∨ j = 5 ∨ j = 6 ∨ j = 7 ∨ j = 8 ∨ j = 9 ∨ j = 10 ∨ j = 11 ∨ j = 12 ∨ j = 13 ∨ j = 14 ∨ j = 15 := by omega
  rcases hc with rfl | rfl | rfl | rfl | rfl | rfl | rfl | rfl | rfl | rfl | rfl | rfl | rfl | rfl | rfl | rfl <;> decide
theorem hexL_in (l : List UInt8) : (hexL l).all inT = true := by
  induction l with
  | nil => rfl
  | cons c l ih =>
    show (([hexD (c.toNat / 16), hexD (c.toNat % 16)] : List UInt8) ++ hexL l).all inT = true
    have := c.toNat_lt
    rw [List.all_append, ih, List.all_cons, List.all_cons, hexD_in _ (by omega), hexD_in _ (by omega)]; rfl
theorem digC_in (u : Nat) : inT (digC u) = true := by
  have h := digC_toNat u
  rw [inT_iff]
  omega
theorem dec_in : ∀ (k u : Nat), u ≤ k → (Lib.decDigits u).all inT = true
  | 0, u, h => by
    obtain rfl : u = 0 := by omega
    rw [decDigits_step, if_pos (by decide)]
    rw [List.nil_append, List.all_cons, digC_in]; rfl
  | k + 1, u, h => by
    rw [decDigits_step, List.all_append, List.all_cons, digC_in]
    by_cases h0 : u / 10 = 0
    · rw [if_pos h0]; rfl
    · rw [if_neg h0, dec_in k (u / 10) (by omega)]; rfl
theorem makeT_good (b : Bool) (l : List UInt8) (h : l.length ≤ 1048576) : goodT (b, makeT l) = true := by
  unfold goodT
  rw [Bool.and_eq_true]
  refine ⟨?_, decide_eq_true ?_⟩
  · show (makeT l).all inT = true
    unfold makeT
    rw [List.all_append, List.all_append, hexL_in, dec_in _ _ (Nat.le_refl _)]; rfl
  · show (makeT l).length ≤ 256
    unfold makeT
    have := decDigits_short l.length h
    simp only [List.length_append, hexL_len, bytesH_len, List.length_singleton]
    omega

set_option maxRecDepth 100000 in
theorem lawMakes_any (s o : ByteArray) (b : Bool) (w : World) (hE : EnvM w) (hs : s.size ≤ 1048576) (ho : o.size ≤ 1048576) :
    Calls Tryz.prog 5 #[.string s, .string o, .bool b] w fun e w' => e = .returned (.bool true) ∧ Below w.heap.size w w' := by
  have AW := Lib.hid (awake_any w hE.env)
  have MK := Lib.hid (fun wx (h : EnvM wx) => make_any s b wx h hs)
  have MO := Lib.hid (fun wx (h : EnvM wx) => make_any o b wx h ho)
  have RK := Lib.hid (fun wx => rmake_any s b wx hs)
  have hne : s.size ≠ o.size → (bs (makeT (L o))).toList ≠ (bs (makeT (L s))).toList := by
    intro h e
    rw [toList_L, toList_L, L_bs, L_bs] at e
    have := makeT_len_inj e
    rw [L_length, L_length] at this
    omega
  have HNE := Lib.hid hne
  obtain ⟨T, hT⟩ := name_it (bs (makeT (L s)))
  rw [hT.out] at MK RK HNE
  obtain ⟨U, hU⟩ := name_it (bs (makeT (L o)))
  rw [hU.out] at MO HNE
  have HE := Lib.hid hE
  clear hE hT hU hne
  go_enter Tryz.func5, Tryz.ntmps5
  go_wp2_with fail
  refine AW.out.mono ?_; rintro e w1 ⟨rfl, b1⟩
  have B1 := Lib.hid b1
  have E1 := Lib.hid (HE.out.next b1)
  clear b1 AW HE
  go_wp2_with fail
  refine (MK.out _ E1.out).mono ?_; rintro e w2 ⟨rfl, b2⟩
  have B2 := Lib.hid ((B1.out.trans (b2.mono B1.out.size)).alloc (B1.out.trans (b2.mono B1.out.size)).size (.cells #[.bool b, .string T] tT))
  have E2 : Hid (EnvM (w2.alloc (.cells #[.bool b, .string T] tT))) := (E1.out.next b2).next ((Below.refl _ _).alloc (Nat.le_refl _) _)
  have A2 : Hid (Blk (w2.alloc (.cells #[.bool b, .string T] tT)) w2.heap.size tT #[.bool b, .string T]) := Blk.new w2 tT _
  clear b2 B1 E1 MK
  have c1 : (w2.alloc (.cells #[.bool b, .string T] tT)).cell? ⟨w2.heap.size, 0, none⟩ = some (.bool b) := A2.out.cell 0
  have c2 : (w2.alloc (.cells #[.bool b, .string T] tT)).cell? ⟨w2.heap.size, 1, none⟩ = some (.string T) := A2.out.cell 1
  go_wp2_with fail
  refine (refG b T _).mono ?_; rintro e w3 ⟨rfl, q3, os3, h3⟩
  have b3 : Below (w2.alloc (.cells #[.bool b, .string T] tT)).heap.size (w2.alloc (.cells #[.bool b, .string T] tT)) w3 := by rw [h3]; exact below_grow q3 os3
  have B3 := Lib.hid (B2.out.trans (b3.mono B2.out.size))
  have E3 := Lib.hid (E2.out.next b3)
  have A3 := Lib.hid (A2.out.below b3 A2.out.lt)
  clear b3 h3 c1 c2 B2 E2 A2
  obtain ⟨m2, hm2⟩ := name_it w2.heap.size
  rw [hm2.out] at A3 ⊢
  clear hm2
  go_wp2_with fail
  refine (RK.out _).mono ?_; rintro e w4 ⟨rfl, b4⟩
  have B4 := Lib.hid (B3.out.trans (b4.mono B3.out.size))
  have E4 := Lib.hid (E3.out.next b4)
  have A4 := Lib.hid (A3.out.below b4 A3.out.lt)
  clear b4 B3 E3 A3 RK
  have hd := (Below.refl w4.heap.size w4).drew
  have B4d := Lib.hid (B4.out.trans (hd.mono B4.out.size))
  have E4d := Lib.hid (E4.out.next hd)
  have A4d := Lib.hid (A4.out.below hd A4.out.lt)
  have c4 : w4.cell? ⟨m2, 1, none⟩ = some (.string T) := A4.out.cell 1
  clear hd
  by_cases hl : s.size = o.size
  · have hlb : ((s.size : Int) == (o.size : Int)) = true := by rw [hl]; simp
    go_wp2_with fail
    all_goals (try (exfalso; omega))
    go_quiet (fail)
    go_wp2_with fail
    all_goals go_ret
    all_goals exact ⟨ret_bool (by simp), below_drewN B4.out _⟩
  · have hlb : ((s.size : Int) == (o.size : Int)) = false := by rw [beq_eq_false_iff_ne]; omega
    have hne := HNE.out hl
    have hnb : (U.toList == T.toList) = false := by simpa using hne
    clear hne HNE
    have hfd : ∀ W : World, (Instr.field 26 (.agg #[.bool b, .string U]) 1).run Tryz.prog W = .ok (.string U) W := fun _ => by kernel_rfl
    go_wp2_with fail
    all_goals (try (exfalso; omega))
    have KA : Hid (∀ W, Blk W m2 tT #[.bool b, .string T] → W.cell? ⟨m2, 1, none⟩ = some (.string T)) := fun W h => h.cell 1
    go_region_held3 (fun W => W.cell? ⟨m2, 1, none⟩ = some (.string T)) (first | with_reducible exact KA.out _ A5.out | with_reducible exact KA.out _ A4d.out | go_keep)
      ((go_at_call 14; refine (MO.out _ E4d.out).mono ?_; rintro e w5 ⟨rfl, b5⟩; have A5 := Lib.hid (A4d.out.below b5 A4d.out.lt); have B5 := Lib.hid (B4d.out.trans (b5.mono B4d.out.size))))
    all_goals
      go_wp2_with fail
      go_ret
      exact ⟨ret_bool (by simp []), B5.out⟩
end Go.Proofs.YtjalfddedikibaaGreatDoor
