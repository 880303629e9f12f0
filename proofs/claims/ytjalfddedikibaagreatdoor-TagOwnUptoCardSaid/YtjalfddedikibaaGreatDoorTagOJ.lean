/- Contract of tag's Decide: the four steps, one behind the other. -/
import Derived.Test.YtjalfddedikibaaGreatDoorTagNJ
import Derived.Test.YtjalfddedikibaaGreatDoorMg
namespace Go.Proofs.YtjalfddedikibaaGreatDoor
open Go Go.RowKit
set_option maxHeartbeats 4000000

def readsT (m : List UInt8) : Bool := decide (m = [71, 69, 84]) || decide (m = [72, 69, 65, 68])
abbrev tFn : TypeId := 58
abbrev tSt : TypeId := 28
def stepV (f mb : Nat) : Value := .func (.func f) #[.pointer (some ⟨mb, 0, none⟩)] #[]
def cellsS (mb : Nat) : Array Value := #[stepV 19 mb, stepV 20 mb, stepV 21 mb, stepV 22 mb]
def stateC (s : Sta) : Array Value := #[.bool s.there, .bool s.tag.1, .string (bs s.tag.2), .bool s.tagged, .int .i64 s.time, .bool s.timed]
/-- what Decide has laid -/
structure MW (w W : World) (mb g : Nat) (rd : Bool) (v : Value) (l : List Fd) (s : Sta) (now : Int) : Prop where
  env : EnvS W
  blk : Blk W mb tM (cellsM rd v s now)
  fns : Blk W g tFn (cellsS mb)
  fd : FdSl W v l
  below : Below w.heap.size w W
theorem MW.next {w W W' : World} {mb g : Nat} {rd : Bool} {v : Value} {l : List Fd} {s : Sta} {now : Int} (h : MW w W mb g rd v l s now) (hb : Below W.heap.size W W') : MW w W' mb g rd v l s now :=
  ⟨h.env.next hb, h.blk.below hb h.blk.lt, h.fns.below hb h.fns.lt, h.fd.next hb, h.below.trans (hb.mono h.below.size)⟩
theorem MW.first {w : World} {v : Value} {l : List Fd} (hE : EnvS w) (hv : FdSl w v l) (rd : Bool) (s : Sta) (now : Int) :
    MW w (((w.alloc (.cells (stateC s) tSt)).alloc (.cells (cellsM rd v s now) tM)).alloc (.cells (cellsS (w.heap.size + 1)) tFn)) (w.heap.size + 1) (w.heap.size + 1 + 1) rd v l s now := by
  have z1 : (w.alloc (.cells (stateC s) tSt)).heap.size = w.heap.size + 1 := Array.size_push ..
  have z2 : ((w.alloc (.cells (stateC s) tSt)).alloc (.cells (cellsM rd v s now) tM)).heap.size = w.heap.size + 1 + 1 := by
    rw [← z1]; exact Array.size_push ..
  have hb : Below w.heap.size w (((w.alloc (.cells (stateC s) tSt)).alloc (.cells (cellsM rd v s now) tM)).alloc (.cells (cellsS (w.heap.size + 1)) tFn)) :=
    (((Below.refl w.heap.size w).alloc (Nat.le_refl _) _).alloc (by rw [z1]; omega) _).alloc (by rw [z2]; omega) _
  have h1 := Blk.new (w.alloc (.cells (stateC s) tSt)) tM (cellsM rd v s now)
  have h2 := Blk.new ((w.alloc (.cells (stateC s) tSt)).alloc (.cells (cellsM rd v s now) tM)) tFn (cellsS (w.heap.size + 1))
  rw [z1] at h1
  rw [z2] at h2
  exact ⟨hE.next hb, h1.alloc _, h2, hv.next hb, hb⟩
theorem step_vals (s : Sta) (rd : Bool) (vs : List Tx) (D : Int × Bool) : (matchT s vs = 0 ∨ matchT s vs = 1 ∨ matchT s vs = 2) ∧ (unmodT s D vs = 0 ∨ unmodT s D vs = 1 ∨ unmodT s D vs = 2) ∧ (noneT rd s vs = 0 ∨ noneT rd s vs = 1 ∨ noneT rd s vs = 2) ∧ (modT rd s D vs = 0 ∨ modT rd s D vs = 1 ∨ modT rd s D vs = 2) := by
  unfold matchT unmodT noneT modT
  refine ⟨?_, ?_, ?_, ?_⟩
  all_goals (repeat' split)
  all_goals first | exact Or.inl rfl | exact Or.inr (Or.inl rfl) | exact Or.inr (Or.inr rfl)

set_option maxRecDepth 100000 in
theorem decide_any (m : ByteArray) (v : Value) (l : List Fd) (s : Sta) (now : Int) (w : World) (hE : EnvS w) (hv : FdSl w v l) (hl : fSum l ≤ 1048576) :
    Calls Tryz.prog 8 #[.string m, v, encSt s, .int .i64 now] w fun e w' => e = .returned (.int .i64 (decideT (readsT (L m)) s now l)) ∧ Below w.heap.size w w' := by
  obtain ⟨p, cap, hpv⟩ : ∃ p cap, v = .slice p l.length cap := by obtain ⟨p, cap, h, _⟩ := hv; exact ⟨p, cap, h⟩
  subst hpv
  have M0 := fun rd => MW.first hE hv rd s now
  have HL := Lib.hid hl
  clear hv hE hl
  unfold encSt
  unfold stateC cellsM cellsS stepV at M0
  obtain ⟨X, hX⟩ := name_it (bs s.tag.2)
  have HR : Hid (readsT (L m) = ((m.toList == [71, 69, 84]) || (m.toList == [72, 69, 65, 68]))) := by
    unfold Hid readsT; rw [toList_L]; exact Bool.eq_iff_iff.2 (by simp)
  obtain ⟨rd, hrd⟩ := name_it (readsT (L m))
  rw [hrd.out] at HR ⊢
  have NV := Lib.hid (step_vals s rd)
  have CA := Lib.hid (fun mb g W (h : MW w W mb g rd (.slice p l.length cap) l s now) => match_any mb rd _ l s now W h.blk h.fd HL.out)
  have CB := Lib.hid (fun mb g W (h : MW w W mb g rd (.slice p l.length cap) l s now) => unmod_any mb rd _ l s now W h.env h.blk h.fd HL.out)
  have CC := Lib.hid (fun mb g W (h : MW w W mb g rd (.slice p l.length cap) l s now) => none_any mb rd _ l s now W h.blk h.fd HL.out)
  have CD := Lib.hid (fun mb g W (h : MW w W mb g rd (.slice p l.length cap) l s now) => mod_any mb rd _ l s now W h.env h.blk h.fd HL.out)
  have HD : Hid (decideT rd s now l = stepD (matchT s (valuesF l nmIM)) (stepD (unmodT s (dateT now (valuesF l nmIU)) (valuesF l nmIM)) (stepD (noneT rd s (valuesF l nmIN)) (stepD (modT rd s (dateT now (valuesF l nmID)) (valuesF l nmIN)) 0)))) := rfl
  have HA := Lib.hid (NV.out (valuesF l nmIM) (0, false)).1
  have HB := Lib.hid (NV.out (valuesF l nmIM) (dateT now (valuesF l nmIU))).2.1
  have HC := Lib.hid (NV.out (valuesF l nmIN) (0, false)).2.2.1
  have HM := Lib.hid (NV.out (valuesF l nmIN) (dateT now (valuesF l nmID))).2.2.2
  clear NV
  obtain ⟨a, ha⟩ := name_it (matchT s (valuesF l nmIM))
  rw [ha.out] at CA HD HA
  obtain ⟨b, hb⟩ := name_it (unmodT s (dateT now (valuesF l nmIU)) (valuesF l nmIM))
  rw [hb.out] at CB HD HB
  obtain ⟨c, hc⟩ := name_it (noneT rd s (valuesF l nmIN))
  rw [hc.out] at CC HD HC
  obtain ⟨d, hd⟩ := name_it (modT rd s (dateT now (valuesF l nmID)) (valuesF l nmIN))
  rw [hd.out] at CD HD HM
  obtain ⟨R, hR⟩ := name_it (decideT rd s now l)
  rw [hR.out] at HD ⊢
  clear ha hb hc hd hR hrd HL
  have H0 := Lib.hid (M0 rd)
  clear M0
  obtain ⟨n, hn⟩ := name_it l.length
  rw [hn.out] at H0 CA CB CC CD
  rw [hn.out, hX.out]
  rw [hX.out] at H0
  clear hX hn
  cases hm1 : (m.toList == [71, 69, 84]) with
  | true =>
    obtain rfl : rd = true := by rw [HR.out, hm1]; rfl
    clear HR
    go_enter Tryz.func8, Tryz.ntmps8
    go_wp2_with fail
    obtain ⟨W0, hW0⟩ := name_it (((w.alloc (.cells #[.bool s.there, .bool s.tag.1, .string X, .bool s.tagged, .int .i64 s.time, .bool s.timed] tSt)).alloc (.cells #[.bool true, .slice p n cap, .bool s.there, .bool s.tag.1, .string X, .bool s.tagged, .int .i64 s.time, .bool s.timed, .int .i64 now] tM)).alloc (.cells #[.func (.func 19) #[.pointer (some ⟨w.heap.size + 1, 0, none⟩)] #[], .func (.func 20) #[.pointer (some ⟨w.heap.size + 1, 0, none⟩)] #[], .func (.func 21) #[.pointer (some ⟨w.heap.size + 1, 0, none⟩)] #[], .func (.func 22) #[.pointer (some ⟨w.heap.size + 1, 0, none⟩)] #[]] tFn))
    rw [hW0.out] at H0 ⊢
    obtain ⟨g, hg⟩ := name_it (w.heap.size + 1 + 1)
    rw [hg.out] at H0 ⊢
    obtain ⟨mb, hmb⟩ := name_it (w.heap.size + 1)
    rw [hmb.out] at H0 ⊢
    have M0 := H0
    clear hW0 hg hmb H0
    refine wp_loop_rounds 5 ?_
    rw [rounds_succ]
    have c0 : W0.cell? ⟨g, 0, none⟩ = some (stepV 19 mb) := M0.out.fns.cell 0
    unfold stepV at c0
    go_wp2_with fail
    all_goals (try (exfalso; omega))
    refine (CA.out mb g W0 M0.out).mono ?_; rintro e w1 ⟨rfl, b1⟩
    have M1 := Lib.hid (M0.out.next b1)
    clear b1 c0 M0 CA
    rcases HA.out with h | h | h
    rotate_left
    · subst h
      go_wp2_with fail
      go_ret
      exact ⟨ret_int HD.out.symm, M1.out.below⟩
    · subst h
      go_wp2_with fail
      go_ret
      exact ⟨ret_int HD.out.symm, M1.out.below⟩
    subst h
    go_wp2_with fail
    all_goals (try (exfalso; omega))
    rw [rounds_succ]
    have c1 : w1.cell? ⟨g, 1, none⟩ = some (stepV 20 mb) := M1.out.fns.cell 1
    unfold stepV at c1
    go_wp2_with fail
    all_goals (try (exfalso; omega))
    refine (CB.out mb g w1 M1.out).mono ?_; rintro e w2 ⟨rfl, b2⟩
    have M2 := Lib.hid (M1.out.next b2)
    clear b2 c1 M1 CB
    rcases HB.out with h | h | h
    rotate_left
    · subst h
      go_wp2_with fail
      go_ret
      exact ⟨ret_int HD.out.symm, M2.out.below⟩
    · subst h
      go_wp2_with fail
      go_ret
      exact ⟨ret_int HD.out.symm, M2.out.below⟩
    subst h
    go_wp2_with fail
    all_goals (try (exfalso; omega))
    rw [rounds_succ]
    have c2 : w2.cell? ⟨g, 2, none⟩ = some (stepV 21 mb) := M2.out.fns.cell 2
    unfold stepV at c2
    go_wp2_with fail
    all_goals (try (exfalso; omega))
    refine (CC.out mb g w2 M2.out).mono ?_; rintro e w3 ⟨rfl, b3⟩
    have M3 := Lib.hid (M2.out.next b3)
    clear b3 c2 M2 CC
    rcases HC.out with h | h | h
    rotate_left
    · subst h
      go_wp2_with fail
      go_ret
      exact ⟨ret_int HD.out.symm, M3.out.below⟩
    · subst h
      go_wp2_with fail
      go_ret
      exact ⟨ret_int HD.out.symm, M3.out.below⟩
    subst h
    go_wp2_with fail
    all_goals (try (exfalso; omega))
    rw [rounds_succ]
    have c3 : w3.cell? ⟨g, 3, none⟩ = some (stepV 22 mb) := M3.out.fns.cell 3
    unfold stepV at c3
    go_wp2_with fail
    all_goals (try (exfalso; omega))
    refine (CD.out mb g w3 M3.out).mono ?_; rintro e w4 ⟨rfl, b4⟩
    have M4 := Lib.hid (M3.out.next b4)
    clear b4 c3 M3 CD
    rcases HM.out with h | h | h
    rotate_left
    · subst h
      go_wp2_with fail
      go_ret
      exact ⟨ret_int HD.out.symm, M4.out.below⟩
    · subst h
      go_wp2_with fail
      go_ret
      exact ⟨ret_int HD.out.symm, M4.out.below⟩
    subst h
    go_wp2_with fail
    all_goals (try (exfalso; omega))
    rw [rounds_succ]
    go_wp2_with fail
    all_goals (try (exfalso; omega))
    go_ret
    exact ⟨ret_int HD.out.symm, M4.out.below⟩
  | false =>
    have hm2 : (m.toList == [72, 69, 65, 68]) = rd := by rw [HR.out, hm1]; rfl
    clear HR
    cases rd
    all_goals
      go_enter Tryz.func8, Tryz.ntmps8
      go_wp2_with fail
      obtain ⟨W0, hW0⟩ := name_it (((w.alloc (.cells #[.bool s.there, .bool s.tag.1, .string X, .bool s.tagged, .int .i64 s.time, .bool s.timed] tSt)).alloc (.cells #[.bool _, .slice p n cap, .bool s.there, .bool s.tag.1, .string X, .bool s.tagged, .int .i64 s.time, .bool s.timed, .int .i64 now] tM)).alloc (.cells #[.func (.func 19) #[.pointer (some ⟨w.heap.size + 1, 0, none⟩)] #[], .func (.func 20) #[.pointer (some ⟨w.heap.size + 1, 0, none⟩)] #[], .func (.func 21) #[.pointer (some ⟨w.heap.size + 1, 0, none⟩)] #[], .func (.func 22) #[.pointer (some ⟨w.heap.size + 1, 0, none⟩)] #[]] tFn))
      rw [hW0.out] at H0 ⊢
      obtain ⟨g, hg⟩ := name_it (w.heap.size + 1 + 1)
      rw [hg.out] at H0 ⊢
      obtain ⟨mb, hmb⟩ := name_it (w.heap.size + 1)
      rw [hmb.out] at H0 ⊢
      have M0 := H0
      clear hW0 hg hmb H0
      refine wp_loop_rounds 5 ?_
      rw [rounds_succ]
      have c0 : W0.cell? ⟨g, 0, none⟩ = some (stepV 19 mb) := M0.out.fns.cell 0
      unfold stepV at c0
      go_wp2_with fail
      all_goals (try (exfalso; omega))
      refine (CA.out mb g W0 M0.out).mono ?_; rintro e w1 ⟨rfl, b1⟩
      have M1 := Lib.hid (M0.out.next b1)
      clear b1 c0 M0 CA
      rcases HA.out with h | h | h
      rotate_left
      · subst h
        go_wp2_with fail
        go_ret
        exact ⟨ret_int HD.out.symm, M1.out.below⟩
      · subst h
        go_wp2_with fail
        go_ret
        exact ⟨ret_int HD.out.symm, M1.out.below⟩
      subst h
      go_wp2_with fail
      all_goals (try (exfalso; omega))
      rw [rounds_succ]
      have c1 : w1.cell? ⟨g, 1, none⟩ = some (stepV 20 mb) := M1.out.fns.cell 1
      unfold stepV at c1
      go_wp2_with fail
      all_goals (try (exfalso; omega))
      refine (CB.out mb g w1 M1.out).mono ?_; rintro e w2 ⟨rfl, b2⟩
      have M2 := Lib.hid (M1.out.next b2)
      clear b2 c1 M1 CB
      rcases HB.out with h | h | h
      rotate_left
      · subst h
        go_wp2_with fail
        go_ret
        exact ⟨ret_int HD.out.symm, M2.out.below⟩
      · subst h
        go_wp2_with fail
        go_ret
        exact ⟨ret_int HD.out.symm, M2.out.below⟩
      subst h
      go_wp2_with fail
      all_goals (try (exfalso; omega))
      rw [rounds_succ]
      have c2 : w2.cell? ⟨g, 2, none⟩ = some (stepV 21 mb) := M2.out.fns.cell 2
      unfold stepV at c2
      go_wp2_with fail
      all_goals (try (exfalso; omega))
      refine (CC.out mb g w2 M2.out).mono ?_; rintro e w3 ⟨rfl, b3⟩
      have M3 := Lib.hid (M2.out.next b3)
      clear b3 c2 M2 CC
      rcases HC.out with h | h | h
      rotate_left
      · subst h
        go_wp2_with fail
        go_ret
        exact ⟨ret_int HD.out.symm, M3.out.below⟩
      · subst h
        go_wp2_with fail
        go_ret
        exact ⟨ret_int HD.out.symm, M3.out.below⟩
      subst h
      go_wp2_with fail
      all_goals (try (exfalso; omega))
      rw [rounds_succ]
      have c3 : w3.cell? ⟨g, 3, none⟩ = some (stepV 22 mb) := M3.out.fns.cell 3
      unfold stepV at c3
      go_wp2_with fail
      all_goals (try (exfalso; omega))
      refine (CD.out mb g w3 M3.out).mono ?_; rintro e w4 ⟨rfl, b4⟩
      have M4 := Lib.hid (M3.out.next b4)
      clear b4 c3 M3 CD
      rcases HM.out with h | h | h
      rotate_left
      · subst h
        go_wp2_with fail
        go_ret
        exact ⟨ret_int HD.out.symm, M4.out.below⟩
      · subst h
        go_wp2_with fail
        go_ret
        exact ⟨ret_int HD.out.symm, M4.out.below⟩
      subst h
      go_wp2_with fail
      all_goals (try (exfalso; omega))
      rw [rounds_succ]
      go_wp2_with fail
      all_goals (try (exfalso; omega))
      go_ret
      exact ⟨ret_int HD.out.symm, M4.out.below⟩
end Go.Proofs.YtjalfddedikibaaGreatDoor
