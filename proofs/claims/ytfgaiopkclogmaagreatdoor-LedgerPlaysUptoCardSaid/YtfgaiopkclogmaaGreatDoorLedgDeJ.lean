/- LedgerTwo: the walk of the law: two books in turns, and what came out of one, know nothing of one another. -/
import Derived.Test.YtfgaiopkclogmaaGreatDoorMi
import Derived.Test.YtfgaiopkclogmaaGreatDoorMj
import Derived.Deep.RegionHeld3
namespace Go.Proofs.YtfgaiopkclogmaaGreatDoor
open Go Go.RowKit Go.MuLone
set_option maxHeartbeats 8000000

def accL (xs : List En) : List En := xs.foldl addL []
theorem accL_snoc (xs : List En) (e : En) : accL (xs ++ [e]) = addL (accL xs) e := by unfold accL; rw [List.foldl_append]; rfl
theorem accL_take (xs : List En) (k : Nat) (h : k < xs.length) : accL (xs.take (k + 1)) = addL (accL (xs.take k)) xs[k] := by rw [List.take_succ_eq_append_getElem h, accL_snoc]
theorem take_over (xs : List En) (k : Nat) (h : ¬ k < xs.length) : xs.take (k + 1) = xs.take k := by rw [List.take_of_length_le (by omega), List.take_of_length_le (by omega)]
theorem accL_ok {xs : List En} (h : ∀ e ∈ xs, intsE e) : ∀ x ∈ accL xs, okE x := by
  revert h
  refine snoc_ind (P := fun xs => (∀ e ∈ xs, intsE e) → ∀ x ∈ accL xs, okE x) (fun _ x hx => by cases hx) (fun l c ih h => ?_) xs
  rw [accL_snoc]
  exact addL_ok (ih (fun e he => h e (by simp [he]))) (h c (by simp))
theorem accL_len (xs : List En) : (accL xs).length ≤ xs.length := by
  refine snoc_ind (P := fun xs => (accL xs).length ≤ xs.length) (Nat.le_refl _) (fun l c ih => ?_) xs
  rw [accL_snoc, List.length_append, List.length_singleton]
  have := (addL_len (accL l) c).2
  omega
/-- what is asked of an entry that comes in -/
structure inE (e : En) : Prop where
  ints : intsE e
  n1 : e.name.length ≤ 1048576
  n2 : e.meth.length ≤ 1048576
  n3 : e.tgt.length ≤ 1048576
abbrev noF : Nat → Prop := fun _ => False
def fil0 : Fi := ⟨[], [], [], 0, 0⟩
theorem encF0 : encF fil0 = .agg #[.string ⟨#[]⟩, .string ⟨#[]⟩, .string ⟨#[]⟩, .int .i64 0, .int .i64 0] := rfl

set_option maxRecDepth 100000 in
theorem lawTwo_any (v1 : Value) (one : List En) (v2 : Value) (two : List En) (w : World) (hZ : EnvZ w) (h1 : EnSl w v1 one) (h2 : EnSl w v2 two) (hi1 : ∀ e ∈ one, inE e) (hi2 : ∀ e ∈ two, inE e) (hl1 : one.length ≤ 200000) (hl2 : two.length ≤ 200000) :
    Calls Tryz.prog 3 #[v1, v2] w fun e w' => e = .returned (.bool true) ∧ Below w.heap.size w w' := by
  obtain ⟨p1, cap1, rfl, hc1⟩ := h1
  obtain ⟨p2, cap2, rfl, hc2⟩ := h2
  have HZ := Lib.hid hZ
  have HC1 := Lib.hid hc1
  have HC2 := Lib.hid hc2
  have HI1 := Lib.hid hi1
  have HI2 := Lib.hid hi2
  have HL1 := Lib.hid hl1
  have HL2 := Lib.hid hl2
  have hn1 : one.length ≤ 1073741824 := by omega
  have hn2 : two.length ≤ 1073741824 := by omega
  have H5 := Lib.hid hZ.l.env.n
  clear hZ hc1 hc2 hi1 hi2 hl1 hl2
  go_enter Tryz.func3, Tryz.ntmps3
  go_wp2_with fail
  refine (newBook_any w H5.out).mono ?_; rintro x w1 ⟨rfl, hA, b1⟩
  have A1 := Lib.hid hA
  have B1 := Lib.hid b1
  clear hA b1
  go_wp2_with fail
  refine (newBook_any w1 (Nat.le_trans H5.out B1.out.size)).mono ?_; rintro x w2 ⟨rfl, hB, b2⟩
  have A2 := Lib.hid (A1.out.next b2)
  have K2 := Lib.hid hB
  have B2 := Lib.hid (B1.out.trans (b2.mono B1.out.size))
  have AB : Hid (w.heap.size < w1.heap.size) := A1.out.blk.lt
  obtain ⟨a, ha⟩ := name_it w.heap.size
  obtain ⟨b, hb⟩ := name_it w1.heap.size
  rw [ha.out] at A2 AB
  rw [hb.out] at K2 AB
  have GA : Hid (w.heap.size ≤ a) := by unfold Hid; rw [ha.out]; exact Nat.le_refl _
  have GB : Hid (w.heap.size ≤ b) := by unfold Hid; rw [← hb.out]; exact B1.out.size
  rw [hb.out]
  rw [show (Value.pointer (some ⟨w.heap.size, 0, none⟩)) = Value.pointer (some ⟨a, 0, none⟩) by rw [ha.out]]
  clear hB b2 A1 B1 ha hb
  go_wp2_with fail
  refine (awake_any w2 (HZ.out.next B2.out).l).mono ?_; rintro x w3 ⟨rfl, b3⟩
  have A3 := Lib.hid (A2.out.next b3)
  have K3 := Lib.hid (K2.out.next b3)
  have B3 := Lib.hid (B2.out.trans (b3.mono B2.out.size))
  clear b3 A2 K2 B2
  have z1 : ∀ (W : World) (o : Obj), (W.alloc o).heap.size = W.heap.size + 1 := fun W o => Array.size_push ..
  have T0 : Hid (TwoSt w ((w3.alloc (.cells #[] tR)).alloc (.cells #[] tR)) noF a (.slice none 0 0) [] b (.slice none 0 0) [] w3.heap.size 0 [] (w3.heap.size + 1) 0 []) := by
    have b4 : Below w3.heap.size w3 ((w3.alloc (.cells #[] tR)).alloc (.cells #[] tR)) := ((Below.refl _ _).alloc (Nat.le_refl _) _).alloc (by rw [z1]; omega) _
    have la := A3.out.blk.lt
    have lb := K3.out.blk.lt
    have hab := AB.out
    have r2 := World.ownsRow_lit (w3.alloc (.cells #[] tR)) (base := w.heap.size) (e := tR) (size := 8) #[] 0 (by rw [z1]; have := B3.out.size; omega) (by decide) rfl
    rw [z1] at r2
    exact {
      A := A3.out.next b4
      B := K3.out.next b4
      ra := (World.ownsRow_lit w3 (base := w.heap.size) (e := tR) (size := 8) #[] 0 B3.out.size (by decide) rfl).alloc _
      rb := r2
      ab := fun i hi hj => by
        rcases hi with rfl | hi
        · rcases hj with hj | hj
          · omega
          · cases hj
        · cases hi
      al := fun h => by rcases h with h | h; omega; cases h
      am := fun h => by rcases h with h | h; omega; cases h
      bl := fun h => by rcases h with h | h; omega; cases h
      bm := fun h => by rcases h with h | h; omega; cases h
      ac := fun i _ h => h
      bc := fun i _ h => h
      lc := fun h => h
      mc := fun h => h
      cb := fun i h => h.elim
      ga := fun i hi => by rcases hi with rfl | hi; exact GA.out; cases hi
      gb := fun i hi => by rcases hi with rfl | hi; exact GB.out; cases hi
      below := B3.out.trans (b4.mono B3.out.size) }
  clear z1 A3 K3 B3
  go_wp2_with fail
  go_loopw [7, 8, 9] (fun lv mv i wr => ∃ (k : Nat) (va vb : Value) (gl cl gm cm : Nat), (k ≤ one.length ∨ k ≤ two.length) ∧ i = .int .i64 k ∧ lv = .slice (some ⟨gl, 0, none⟩) (accL (one.take k)).length cl ∧ mv = .slice (some ⟨gm, 0, none⟩) (accL (two.take k)).length cm ∧
      Hid (TwoSt w wr noF a va (accL (one.take k)) b vb (accL (two.take k)) gl cl (accL (one.take k)) gm cm (accL (two.take k)))) (fun _ _ i _ => one.length + two.length - (intOf i).toNat)
  case atStart => exact ⟨0, _, _, _, _, _, _, Or.inl (Nat.zero_le _), rfl, rfl, rfl, T0⟩
  clear T0
  case round =>
    obtain ⟨k, va, vb, gl, cl, gm, cm, hk, rfl, rfl, rfl, hT⟩ := hrel
    obtain ⟨wq, hwq⟩ : ∃ wq, wq = wr := ⟨wr, rfl⟩
    subst hwq
    have HO1 := Lib.hid (accL_ok (xs := one.take k) (fun e he => (HI1.out e (List.mem_of_mem_take he)).ints))
    have HO2 := Lib.hid (accL_ok (xs := two.take k) (fun e he => (HI2.out e (List.mem_of_mem_take he)).ints))
    have HN1 : Hid ((accL (one.take k)).length ≤ 200000) := by have h1 := accL_len (one.take k); have h2 := List.length_take_le k one; have h3 := List.length_take_le' k one; have h4 := HL1.out; unfold Hid; omega
    have HN2 : Hid ((accL (two.take k)).length ≤ 200000) := by have h1 := accL_len (two.take k); have h3 := List.length_take_le' k two; have h4 := HL2.out; unfold Hid; omega
    have q0 : (0 : Int) ≤ (k : Int) := by omega
    have HK : Hid (k ≤ 200000) := by have h3 := HL1.out; have h4 := HL2.out; unfold Hid; omega
    by_cases hk1 : k < one.length
    · skip
      obtain ⟨b1, o1, rfl, hb1, hcell1⟩ := HC1.out k hk1
      have CK1' := Lib.hid hcell1
      have HB1 := Lib.hid hb1
      have HE1 := Lib.hid (HI1.out one[k] (List.getElem_mem hk1))
      have TK1 := Lib.hid (accL_take one k hk1)
      obtain ⟨e, he1⟩ := name_it one[k]
      rw [he1.out] at CK1' HE1 TK1
      clear he1 hb1 hcell1
      have CKe : Hid (∀ W, Below w.heap.size w W → W.cell? ⟨b1, o1 + k * 8, none⟩ = some (.string (bs e.name)) ∧ W.cell? ⟨b1, o1 + k * 8 + 1, none⟩ = some (.int .i64 e.conn) ∧ W.cell? ⟨b1, o1 + k * 8 + 2, none⟩ = some (.int .i64 e.numb) ∧ W.cell? ⟨b1, o1 + k * 8 + 3, none⟩ = some (.string (bs e.meth)) ∧ W.cell? ⟨b1, o1 + k * 8 + 4, none⟩ = some (.string (bs e.tgt)) ∧ W.cell? ⟨b1, o1 + k * 8 + 5, none⟩ = some (.int .i64 e.stat) ∧ W.cell? ⟨b1, o1 + k * 8 + 6, none⟩ = some (.int .i64 e.byts) ∧ W.cell? ⟨b1, o1 + k * 8 + 7, none⟩ = some (.int .i64 e.tick)) := by
        intro W hW
        have hq : ∀ i, i < 8 → W.cell? ⟨b1, o1 + k * 8 + i, none⟩ = (cellsE e)[i]? := fun i hi => (hW.cell (p := ⟨b1, o1 + k * 8 + i, none⟩) HB1.out).trans (CK1'.out i hi)
        exact ⟨hq 0 (by decide), hq 1 (by decide), hq 2 (by decide), hq 3 (by decide), hq 4 (by decide), hq 5 (by decide), hq 6 (by decide), hq 7 (by decide)⟩
      have q1 : (k : Int) < (one.length : Int) := by omega
      have hd1 : decide ((k : Int) < (one.length : Int)) = true := decide_eq_true q1
      have TD := Lib.hid (hT.out.next (Below.refl _ _).drew)
      have ADD := Lib.hid (add_any a va _ e _ (HZ.out.next TD.out.below).l.env TD.out.A (by have := HN1.out; omega) HE1.out.n1 HE1.out.n2 HE1.out.n3)
      unfold visE at ADD
      obtain ⟨x0, x1, x2, x3, x4, x5, x6, x7⟩ := CKe.out _ hT.out.below
      go_wp2_with fail
      go_region_held3 (fun W => W.cell? ⟨b1, o1 + k * 8, none⟩ = some (.string (bs e.name)) ∧ W.cell? ⟨b1, o1 + k * 8 + 1, none⟩ = some (.int .i64 e.conn) ∧ W.cell? ⟨b1, o1 + k * 8 + 2, none⟩ = some (.int .i64 e.numb) ∧ W.cell? ⟨b1, o1 + k * 8 + 3, none⟩ = some (.string (bs e.meth)) ∧ W.cell? ⟨b1, o1 + k * 8 + 4, none⟩ = some (.string (bs e.tgt)) ∧ W.cell? ⟨b1, o1 + k * 8 + 5, none⟩ = some (.int .i64 e.stat) ∧ W.cell? ⟨b1, o1 + k * 8 + 6, none⟩ = some (.int .i64 e.byts) ∧ W.cell? ⟨b1, o1 + k * 8 + 7, none⟩ = some (.int .i64 e.tick)) (first | exact CKe.out _ T1.out.below | go_keep)
        (first | (go_at_call 11; refine ADD.out.mono ?_; rintro x w5 ⟨rfl, hadd⟩; obtain ⟨va', T1'⟩ := TD.out.add hadd; have T1 := Lib.hid T1'))
      clear x0 x1 x2 x3 x4 x5 x6 x7
      clear TD ADD hT
      obtain ⟨x0, x1, x2, x3, x4, x5, x6, x7⟩ := CKe.out _ T1.out.below
      have GV := Lib.hid (given_any e w5)
      unfold encE at GV
      go_wp2_with fail
      refine GV.out.mono ?_; rintro x w6 ⟨rfl, b6⟩
      have T2 := Lib.hid (T1.out.next b6)
      clear b6 T1 GV x0 x1 x2 x3 x4 x5 x6 x7
      have RD := Lib.hid (radd_any gl cl _ e w.heap.size w6 T2.out.ra T2.out.below.size (by have := HN1.out; omega) HE1.out.n1 HE1.out.n2 HE1.out.n3)
      unfold encE at RD
      go_wp2_with fail
      refine RD.out.mono ?_; rintro x w7 ⟨gl', cl', rfl, hown, hb7, hg7⟩
      have T3 := Lib.hid (T2.out.row hown hb7 hg7)
      clear hown hb7 hg7 T2 RD
      rw [← TK1.out] at T3 ⊢
      have HO1' := Lib.hid (accL_ok (xs := one.take (k + 1)) (fun e he => (HI1.out e (List.mem_of_mem_take he)).ints))
      have HN1' : Hid ((accL (one.take (k + 1))).length ≤ 200000) := by have h1 := accL_len (one.take (k + 1)); have h3 := List.length_take_le' (k + 1) one; have h4 := HL1.out; unfold Hid; omega
      have ON := Lib.hid (only_any (.pointer (some ⟨a, 0, none⟩)) _ fil0 w7 (HZ.out.next T3.out.below) (ent_book T3.out.A) HO1'.out (by have := HN1'.out; omega) (by decide))
      rw [encF0] at ON
      go_wp2_with fail
      refine ON.out.mono ?_; rintro x w8 ⟨hnb, b8⟩
      obtain ⟨c, vc, rfl, hbc, hc, hcv⟩ := hnb
      have T4 := Lib.hid (T3.out.third (D := bokS c vc) b8 (fun i hi => ⟨by rcases hi with rfl | hi; exact hc; exact hcv i hi, bokS_lt hbc i hi⟩))
      have HGC : Hid (∀ i, bokS c vc i → w.heap.size ≤ i) := fun i hi => by have h1 := T3.out.below.size; rcases hi with rfl | hi; exact Nat.le_trans h1 hc; exact Nat.le_trans h1 (hcv i hi)
      have BC4 := Lib.hid hbc
      have HFL : Hid ((List.filter (fun e => wantB e fil0) (accL (one.take (k + 1)))).length ≤ 200000) := Nat.le_trans (List.length_filter_le _ _) HN1'.out
      clear hbc hc hcv b8 ON T3
      by_cases hk2 : k < two.length
      · skip
        obtain ⟨b2, o2, rfl, hb2, hcell2⟩ := HC2.out k hk2
        have CK2' := Lib.hid hcell2
        have HB2 := Lib.hid hb2
        have HE2 := Lib.hid (HI2.out two[k] (List.getElem_mem hk2))
        have TK2 := Lib.hid (accL_take two k hk2)
        obtain ⟨f, he2⟩ := name_it two[k]
        rw [he2.out] at CK2' HE2 TK2
        clear he2 hb2 hcell2
        have CKf : Hid (∀ W, Below w.heap.size w W → W.cell? ⟨b2, o2 + k * 8, none⟩ = some (.string (bs f.name)) ∧ W.cell? ⟨b2, o2 + k * 8 + 1, none⟩ = some (.int .i64 f.conn) ∧ W.cell? ⟨b2, o2 + k * 8 + 2, none⟩ = some (.int .i64 f.numb) ∧ W.cell? ⟨b2, o2 + k * 8 + 3, none⟩ = some (.string (bs f.meth)) ∧ W.cell? ⟨b2, o2 + k * 8 + 4, none⟩ = some (.string (bs f.tgt)) ∧ W.cell? ⟨b2, o2 + k * 8 + 5, none⟩ = some (.int .i64 f.stat) ∧ W.cell? ⟨b2, o2 + k * 8 + 6, none⟩ = some (.int .i64 f.byts) ∧ W.cell? ⟨b2, o2 + k * 8 + 7, none⟩ = some (.int .i64 f.tick)) := by
          intro W hW
          have hq : ∀ i, i < 8 → W.cell? ⟨b2, o2 + k * 8 + i, none⟩ = (cellsE f)[i]? := fun i hi => (hW.cell (p := ⟨b2, o2 + k * 8 + i, none⟩) HB2.out).trans (CK2'.out i hi)
          exact ⟨hq 0 (by decide), hq 1 (by decide), hq 2 (by decide), hq 3 (by decide), hq 4 (by decide), hq 5 (by decide), hq 6 (by decide), hq 7 (by decide)⟩
        have q2 : (k : Int) < (two.length : Int) := by omega
        have hd2 : decide ((k : Int) < (two.length : Int)) = true := decide_eq_true q2
        have TD := Lib.hid (T4.out.next (Below.refl _ _).drew)
        have KD : Hid (Keeps (bokS b vb) w8 w8.drew) := Keeps.of (Below.refl w8.heap.size w8).drew (Nat.le_refl _)
        have ADD := Lib.hid (add_any b vb _ f _ (HZ.out.next TD.out.below).l.env TD.out.B (by have := HN2.out; omega) HE2.out.n1 HE2.out.n2 HE2.out.n3)
        unfold visE at ADD
        obtain ⟨x0, x1, x2, x3, x4, x5, x6, x7⟩ := CKf.out _ T4.out.below
        go_wp2_with fail
        go_region_held3 (fun W => W.cell? ⟨b2, o2 + k * 8, none⟩ = some (.string (bs f.name)) ∧ W.cell? ⟨b2, o2 + k * 8 + 1, none⟩ = some (.int .i64 f.conn) ∧ W.cell? ⟨b2, o2 + k * 8 + 2, none⟩ = some (.int .i64 f.numb) ∧ W.cell? ⟨b2, o2 + k * 8 + 3, none⟩ = some (.string (bs f.meth)) ∧ W.cell? ⟨b2, o2 + k * 8 + 4, none⟩ = some (.string (bs f.tgt)) ∧ W.cell? ⟨b2, o2 + k * 8 + 5, none⟩ = some (.int .i64 f.stat) ∧ W.cell? ⟨b2, o2 + k * 8 + 6, none⟩ = some (.int .i64 f.byts) ∧ W.cell? ⟨b2, o2 + k * 8 + 7, none⟩ = some (.int .i64 f.tick)) (first | exact CKf.out _ T5.out.below | go_keep)
          (first | (go_at_call 11; refine ADD.out.mono ?_; rintro x w9 ⟨rfl, hadd⟩; obtain ⟨vb', T5'⟩ := TD.out.swap.add hadd; have T5 := Lib.hid T5'.swap; have BC5 := Lib.hid (BC4.out.keeps (KD.out.trans hadd.choose_spec.2.2) (fun h => T4.out.bc _ h (Or.inl rfl)) (fun g hg h => T4.out.bc _ h (Or.inr hg)))))
        clear x0 x1 x2 x3 x4 x5 x6 x7
        clear TD ADD T4 BC4 KD
        obtain ⟨x0, x1, x2, x3, x4, x5, x6, x7⟩ := CKf.out _ T5.out.below
        have GV := Lib.hid (given_any f w9)
        unfold encE at GV
        go_wp2_with fail
        refine GV.out.mono ?_; rintro x w10 ⟨rfl, b10⟩
        have T6 := Lib.hid (T5.out.next b10)
        have BC6 := Lib.hid (BC5.out.next b10)
        clear b10 T5 BC5 GV x0 x1 x2 x3 x4 x5 x6 x7
        have RD := Lib.hid (radd_any gm cm _ f w.heap.size w10 T6.out.rb T6.out.below.size (by have := HN2.out; omega) HE2.out.n1 HE2.out.n2 HE2.out.n3)
        unfold encE at RD
        go_wp2_with fail
        refine RD.out.mono ?_; rintro x w11 ⟨gm', cm', rfl, hown, hb11, hg11⟩
        have T7 := Lib.hid (T6.out.swap.row hown hb11 hg11).swap
        have BC7 := Lib.hid (BC6.out.next hb11)
        clear hown hb11 hg11 T6 BC6 RD
        rw [← TK2.out] at T7 ⊢
        have TD := Lib.hid (T7.out.next (Below.refl _ _).drew)
        have ADD := Lib.hid (add_any c vc _ f _ (HZ.out.next TD.out.below).l.env (BC7.out.next (Below.refl _ _).drew) (by have := HFL.out; omega) HE2.out.n1 HE2.out.n2 HE2.out.n3)
        unfold visE at ADD
        obtain ⟨x0, x1, x2, x3, x4, x5, x6, x7⟩ := CKf.out _ T7.out.below
        go_wp2_with fail
        go_region_held3 (fun W => W.cell? ⟨b2, o2 + k * 8, none⟩ = some (.string (bs f.name)) ∧ W.cell? ⟨b2, o2 + k * 8 + 1, none⟩ = some (.int .i64 f.conn) ∧ W.cell? ⟨b2, o2 + k * 8 + 2, none⟩ = some (.int .i64 f.numb) ∧ W.cell? ⟨b2, o2 + k * 8 + 3, none⟩ = some (.string (bs f.meth)) ∧ W.cell? ⟨b2, o2 + k * 8 + 4, none⟩ = some (.string (bs f.tgt)) ∧ W.cell? ⟨b2, o2 + k * 8 + 5, none⟩ = some (.int .i64 f.stat) ∧ W.cell? ⟨b2, o2 + k * 8 + 6, none⟩ = some (.int .i64 f.byts) ∧ W.cell? ⟨b2, o2 + k * 8 + 7, none⟩ = some (.int .i64 f.tick)) (first | exact CKf.out _ T8.out.below | go_keep)
          (first | (go_at_call 11; refine ADD.out.mono ?_; rintro x w12 ⟨rfl, hadd⟩; have T8 := Lib.hid (TD.out.turned (D := noF) hadd.choose_spec.2.2 HGC.out (fun _ h => h))))
        clear x0 x1 x2 x3 x4 x5 x6 x7
        go_wp2_with fail
        go_roundw
        case rel => exact ⟨k + 1, _, _, _, _, _, _, by omega, by go_num, rfl, rfl, T8⟩
        case measure => simp [intOf] <;> omega
      · have hd2 : decide ((k : Int) < (two.length : Int)) = false := decide_eq_false (by omega)
        have TO := take_over two k hk2
        have T8 := Lib.hid (T4.out.turned (W' := w8) (D := noF) (Keeps.refl _ _) HGC.out (fun _ h => h))
        clear T4
        rw [← TO] at T8
        rw [show accL (two.take k) = accL (two.take (k + 1)) by rw [TO]]
        clear TO
        go_wp2_with fail
        go_roundw
        case rel => exact ⟨k + 1, _, _, _, _, _, _, by omega, by go_num, rfl, rfl, T8⟩
        case measure => simp [intOf] <;> omega
    · have hd1 : decide ((k : Int) < (one.length : Int)) = false := decide_eq_false (by omega)
      by_cases hk2 : k < two.length
      · skip
        obtain ⟨b2, o2, rfl, hb2, hcell2⟩ := HC2.out k hk2
        have CK2' := Lib.hid hcell2
        have HB2 := Lib.hid hb2
        have HE2 := Lib.hid (HI2.out two[k] (List.getElem_mem hk2))
        have TK2 := Lib.hid (accL_take two k hk2)
        obtain ⟨f, he2⟩ := name_it two[k]
        rw [he2.out] at CK2' HE2 TK2
        clear he2 hb2 hcell2
        have CKf : Hid (∀ W, Below w.heap.size w W → W.cell? ⟨b2, o2 + k * 8, none⟩ = some (.string (bs f.name)) ∧ W.cell? ⟨b2, o2 + k * 8 + 1, none⟩ = some (.int .i64 f.conn) ∧ W.cell? ⟨b2, o2 + k * 8 + 2, none⟩ = some (.int .i64 f.numb) ∧ W.cell? ⟨b2, o2 + k * 8 + 3, none⟩ = some (.string (bs f.meth)) ∧ W.cell? ⟨b2, o2 + k * 8 + 4, none⟩ = some (.string (bs f.tgt)) ∧ W.cell? ⟨b2, o2 + k * 8 + 5, none⟩ = some (.int .i64 f.stat) ∧ W.cell? ⟨b2, o2 + k * 8 + 6, none⟩ = some (.int .i64 f.byts) ∧ W.cell? ⟨b2, o2 + k * 8 + 7, none⟩ = some (.int .i64 f.tick)) := by
          intro W hW
          have hq : ∀ i, i < 8 → W.cell? ⟨b2, o2 + k * 8 + i, none⟩ = (cellsE f)[i]? := fun i hi => (hW.cell (p := ⟨b2, o2 + k * 8 + i, none⟩) HB2.out).trans (CK2'.out i hi)
          exact ⟨hq 0 (by decide), hq 1 (by decide), hq 2 (by decide), hq 3 (by decide), hq 4 (by decide), hq 5 (by decide), hq 6 (by decide), hq 7 (by decide)⟩
        have q2 : (k : Int) < (two.length : Int) := by omega
        have hd2 : decide ((k : Int) < (two.length : Int)) = true := decide_eq_true q2
        have T3 := hT
        clear hT
        have TO := take_over one k hk1
        rw [← TO] at T3 HO1 HN1
        rw [show accL (one.take k) = accL (one.take (k + 1)) by rw [TO]]
        clear TO
        have HO1' := HO1
        have HN1' := HN1
        have ON := Lib.hid (only_any (.pointer (some ⟨a, 0, none⟩)) _ fil0 wq (HZ.out.next T3.out.below) (ent_book T3.out.A) HO1'.out (by have := HN1'.out; omega) (by decide))
        rw [encF0] at ON
        go_wp2_with fail
        refine ON.out.mono ?_; rintro x w8 ⟨hnb, b8⟩
        obtain ⟨c, vc, rfl, hbc, hc, hcv⟩ := hnb
        have T4 := Lib.hid (T3.out.third (D := bokS c vc) b8 (fun i hi => ⟨by rcases hi with rfl | hi; exact hc; exact hcv i hi, bokS_lt hbc i hi⟩))
        have HGC : Hid (∀ i, bokS c vc i → w.heap.size ≤ i) := fun i hi => by have h1 := T3.out.below.size; rcases hi with rfl | hi; exact Nat.le_trans h1 hc; exact Nat.le_trans h1 (hcv i hi)
        have BC4 := Lib.hid hbc
        have HFL : Hid ((List.filter (fun e => wantB e fil0) (accL (one.take (k + 1)))).length ≤ 200000) := Nat.le_trans (List.length_filter_le _ _) HN1'.out
        clear hbc hc hcv b8 ON T3
        have TD := Lib.hid (T4.out.next (Below.refl _ _).drew)
        have KD : Hid (Keeps (bokS b vb) w8 w8.drew) := Keeps.of (Below.refl w8.heap.size w8).drew (Nat.le_refl _)
        have ADD := Lib.hid (add_any b vb _ f _ (HZ.out.next TD.out.below).l.env TD.out.B (by have := HN2.out; omega) HE2.out.n1 HE2.out.n2 HE2.out.n3)
        unfold visE at ADD
        obtain ⟨x0, x1, x2, x3, x4, x5, x6, x7⟩ := CKf.out _ T4.out.below
        go_wp2_with fail
        go_region_held3 (fun W => W.cell? ⟨b2, o2 + k * 8, none⟩ = some (.string (bs f.name)) ∧ W.cell? ⟨b2, o2 + k * 8 + 1, none⟩ = some (.int .i64 f.conn) ∧ W.cell? ⟨b2, o2 + k * 8 + 2, none⟩ = some (.int .i64 f.numb) ∧ W.cell? ⟨b2, o2 + k * 8 + 3, none⟩ = some (.string (bs f.meth)) ∧ W.cell? ⟨b2, o2 + k * 8 + 4, none⟩ = some (.string (bs f.tgt)) ∧ W.cell? ⟨b2, o2 + k * 8 + 5, none⟩ = some (.int .i64 f.stat) ∧ W.cell? ⟨b2, o2 + k * 8 + 6, none⟩ = some (.int .i64 f.byts) ∧ W.cell? ⟨b2, o2 + k * 8 + 7, none⟩ = some (.int .i64 f.tick)) (first | exact CKf.out _ T5.out.below | go_keep)
          (first | (go_at_call 11; refine ADD.out.mono ?_; rintro x w9 ⟨rfl, hadd⟩; obtain ⟨vb', T5'⟩ := TD.out.swap.add hadd; have T5 := Lib.hid T5'.swap; have BC5 := Lib.hid (BC4.out.keeps (KD.out.trans hadd.choose_spec.2.2) (fun h => T4.out.bc _ h (Or.inl rfl)) (fun g hg h => T4.out.bc _ h (Or.inr hg)))))
        clear x0 x1 x2 x3 x4 x5 x6 x7
        clear TD ADD T4 BC4 KD
        obtain ⟨x0, x1, x2, x3, x4, x5, x6, x7⟩ := CKf.out _ T5.out.below
        have GV := Lib.hid (given_any f w9)
        unfold encE at GV
        go_wp2_with fail
        refine GV.out.mono ?_; rintro x w10 ⟨rfl, b10⟩
        have T6 := Lib.hid (T5.out.next b10)
        have BC6 := Lib.hid (BC5.out.next b10)
        clear b10 T5 BC5 GV x0 x1 x2 x3 x4 x5 x6 x7
        have RD := Lib.hid (radd_any gm cm _ f w.heap.size w10 T6.out.rb T6.out.below.size (by have := HN2.out; omega) HE2.out.n1 HE2.out.n2 HE2.out.n3)
        unfold encE at RD
        go_wp2_with fail
        refine RD.out.mono ?_; rintro x w11 ⟨gm', cm', rfl, hown, hb11, hg11⟩
        have T7 := Lib.hid (T6.out.swap.row hown hb11 hg11).swap
        have BC7 := Lib.hid (BC6.out.next hb11)
        clear hown hb11 hg11 T6 BC6 RD
        rw [← TK2.out] at T7 ⊢
        have TD := Lib.hid (T7.out.next (Below.refl _ _).drew)
        have ADD := Lib.hid (add_any c vc _ f _ (HZ.out.next TD.out.below).l.env (BC7.out.next (Below.refl _ _).drew) (by have := HFL.out; omega) HE2.out.n1 HE2.out.n2 HE2.out.n3)
        unfold visE at ADD
        obtain ⟨x0, x1, x2, x3, x4, x5, x6, x7⟩ := CKf.out _ T7.out.below
        go_wp2_with fail
        go_region_held3 (fun W => W.cell? ⟨b2, o2 + k * 8, none⟩ = some (.string (bs f.name)) ∧ W.cell? ⟨b2, o2 + k * 8 + 1, none⟩ = some (.int .i64 f.conn) ∧ W.cell? ⟨b2, o2 + k * 8 + 2, none⟩ = some (.int .i64 f.numb) ∧ W.cell? ⟨b2, o2 + k * 8 + 3, none⟩ = some (.string (bs f.meth)) ∧ W.cell? ⟨b2, o2 + k * 8 + 4, none⟩ = some (.string (bs f.tgt)) ∧ W.cell? ⟨b2, o2 + k * 8 + 5, none⟩ = some (.int .i64 f.stat) ∧ W.cell? ⟨b2, o2 + k * 8 + 6, none⟩ = some (.int .i64 f.byts) ∧ W.cell? ⟨b2, o2 + k * 8 + 7, none⟩ = some (.int .i64 f.tick)) (first | exact CKf.out _ T8.out.below | go_keep)
          (first | (go_at_call 11; refine ADD.out.mono ?_; rintro x w12 ⟨rfl, hadd⟩; have T8 := Lib.hid (TD.out.turned (D := noF) hadd.choose_spec.2.2 HGC.out (fun _ h => h))))
        clear x0 x1 x2 x3 x4 x5 x6 x7
        go_wp2_with fail
        go_roundw
        case rel => exact ⟨k + 1, _, _, _, _, _, _, by omega, by go_num, rfl, rfl, T8⟩
        case measure => simp [intOf] <;> omega
      · have hd2 : decide ((k : Int) < (two.length : Int)) = false := decide_eq_false (by omega)
        have e1 : one.take k = one := List.take_of_length_le (by omega)
        have e2 : two.take k = two := List.take_of_length_le (by omega)
        have HA := Lib.hid (fun W hW => holds_any a va _ (.slice (some ⟨gl, 0, none⟩) (accL (one.take k)).length cl) w.heap.size W (HZ.out.next (hT.out.below.trans (hW.mono hT.out.below.size))) (hT.out.A.next hW) (hT.out.next hW).ra HO1.out)
        have HB := Lib.hid (fun W hW => holds_any b vb _ (.slice (some ⟨gm, 0, none⟩) (accL (two.take k)).length cm) w.heap.size W (HZ.out.next (hT.out.below.trans (hW.mono hT.out.below.size))) (hT.out.B.next hW) (hT.out.next hW).rb HO2.out)
        have DQ := Lib.hid hT.out.below
        clear e1 e2 hT
        go_wp2_with fail
        refine (HA.out wq (Below.refl _ _)).mono ?_; rintro x w5 ⟨rfl, b5⟩
        have D5 := Lib.hid b5
        clear b5
        go_wp2_with fail
        refine (HB.out w5 D5.out).mono ?_; rintro x w6 ⟨rfl, b6⟩
        have D6 := Lib.hid (DQ.out.trans ((D5.out.trans (b6.mono D5.out.size)).mono DQ.out.size))
        clear b6
        go_wp2_with fail
        go_ret
        exact ⟨rfl, D6.out⟩
end Go.Proofs.YtfgaiopkclogmaaGreatDoor
