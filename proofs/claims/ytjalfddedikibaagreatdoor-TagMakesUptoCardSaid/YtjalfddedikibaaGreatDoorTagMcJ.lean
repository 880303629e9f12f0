/- Contracts of the numerals in a tag; Make of the document and of the program. -/
import Derived.Test.YtjalfddedikibaaGreatDoorTagMbJ
import Derived.Test.YtjalfddedikibaaGreatDoorMn
import Derived.Test.YtjalfddedikibaaGreatDoorTagRdJ
namespace Go.Proofs.YtjalfddedikibaaGreatDoor
open Go Go.RowKit
set_option maxHeartbeats 4000000

set_option maxRecDepth 100000 in
theorem rdig8_any (N : Nat) (w : World) (h0 : N ≤ 1048576) :
    Calls Tryz.prog 39 #[.int .i64 N] w fun e w' => e = .returned (.string (bs (Lib.decDigits N))) ∧ Below w.heap.size w w' := by
  have hlen : (Lib.decDigits N).length ≤ 21 := by
    have h := Lib.itoa_length_le (N : Int) (by omega) (by omega)
    unfold Lib.itoa at h
    rw [if_neg (by omega)] at h
    exact h
  have hD0 : Hid (Lib.decDigits N ++ [] = Lib.decDigits N) := List.append_nil _
  obtain ⟨D, hD⟩ := name_it (Lib.decDigits N)
  rw [hD.out] at hlen ⊢
  have hD1 : Hid (Lib.decDigits N ++ [] = D) := by unfold Hid; rw [hD0.out]; exact hD.out
  clear hD0 hD
  have B0 : Hid (Below w.heap.size w w) := Below.refl _ _
  go_enter Tryz.func39, Tryz.ntmps39
  go_wp2_with fail
  go_loopw [0, 3] (fun n out wr => ∃ (m : Nat) (o : List UInt8), n = .int .i64 m ∧ out = .string (bs o) ∧ m ≤ 1048576 ∧ Hid (Lib.decDigits m ++ o = D) ∧ Hid (Below w.heap.size w wr)) (fun n _ _ => (intOf n).toNat)
  case atStart => exact ⟨N, [], rfl, rfl, h0, hD1, B0⟩
  clear hD1 B0
  case round =>
    obtain ⟨m, o, rfl, rfl, hm, hmo, hB⟩ := hrel
    have hst := decDigits_step m
    have hcn := digC_toNat m
    obtain ⟨c, hc⟩ := name_it (digC m)
    rw [hc.out] at hst hcn
    have hmo2 : Hid ((if m / 10 = 0 then [] else Lib.decDigits (m / 10)) ++ (c :: o) = D) := by
      have := hmo.out
      rw [hst, List.append_assoc] at this
      exact this
    have hol : (c :: o).length ≤ 21 := by
      have := congrArg List.length hmo2.out
      rw [List.length_append] at this; omega
    have hob : (bs o).size ≤ 20 := by rw [size_bs]; simp at hol; omega
    have hcc : bs (c :: o) = bs [c] ++ bs o := rfl
    have hce : (c.toNat : Int) = 48 + (m : Int) % 10 := by omega
    clear hst hc hmo hcn hol
    have hbw := Lib.hid (hB.out.alloc hB.out.size (.cells #[.int .u8 (c.toNat : Int)] 5))
    have hconv : (convert 77 9 (.slice (some ⟨wr.heap.size, 0, none⟩) 1 1)).run Tryz.prog (wr.alloc (.cells #[.int .u8 (c.toNat : Int)] 5)) = .ok (.string (bs [c])) (wr.alloc (.cells #[.int .u8 (c.toNat : Int)] 5)) :=
      own_string 77 9 5 (base := wr.heap.size) (l := [c]) (World.ownsRow_lit wr #[.int .u8 (c.toNat : Int)] 1 (Nat.le_refl _) (by unfold maxLen; omega) rfl) Tryz.underlying77 Tryz.underlying5 Tryz.underlying9
    have hb1 : (bs [c]).size = 1 := rfl
    rw [hce] at hconv hbw
    have m0 : (0 : Int) ≤ (m : Int) := by omega
    have m1 : (0 : Int) ≤ (m : Int) % 10 := by omega
    have m2 : (m : Int) % 10 < 10 := by omega
    have m3 : (m : Int) / 10 = ((m / 10 : Nat) : Int) := by omega
    by_cases hz : m / 10 = 0
    · have hF : Hid (bs (c :: o) = bs D) := by unfold Hid; have := hmo2.out; rw [if_pos hz] at this; rw [← this]; rfl
      have hz2 : (m : Int) / 10 = 0 := by omega
      go_wp2_with fail
      all_goals (try (exfalso; omega))
      go_ret
      exact ⟨by rw [← hF.out, hcc]; rfl, hbw.out⟩
    · have hF : Hid (Lib.decDigits (m / 10) ++ (c :: o) = D) := by have := hmo2.out; rw [if_neg hz] at this; exact this
      have td : (m : Int).tdiv 10 = ((m / 10 : Nat) : Int) := by rw [Int.tdiv_eq_ediv_of_nonneg m0]; omega
      have hlt : m / 10 < m := by omega
      obtain ⟨q, hq⟩ := name_it (m / 10)
      rw [hq.out] at hF td m3 hz hlt
      have w1 : IntKind.i64.wrap ((m : Int).tdiv 10) = (q : Int) := by rw [td]; exact IntWalk.i64_in _ (by omega)
      have hqz : ((q : Int) == 0) = false := by rw [beq_eq_false_iff_ne]; omega
      have hq0 : ¬ (q : Int) = 0 := by omega
      clear hmo2 hq
      go_wp2_with fail
      all_goals (try (exfalso; omega))
      go_roundw
      case rel => exact ⟨q, c :: o, by first | rfl | rw [w1] | rw [m3], by rw [hcc], by omega, hF, hbw⟩
      case measure => simp [intOf] <;> omega

def byH (n : Int) (k : Nat) : UInt8 := UInt8.ofNat (n / 2 ^ (56 - 8 * k) % 256).toNat
theorem byH_eq (n : Int) (k : Nat) : ((byH n k).toNat : Int) = n / 2 ^ (56 - 8 * k) % 256 := by
  unfold byH
  rw [UInt8.toNat_ofNat']
  have h1 := Int.emod_nonneg (n / 2 ^ (56 - 8 * k)) (b := 256) (by decide)
  have h2 := Int.emod_lt_of_pos (n / 2 ^ (56 - 8 * k)) (b := 256) (by decide)
  omega
def bytesH (n : Int) (k : Nat) : List UInt8 := (List.range k).map (byH n)
theorem bytesH_succ (n : Int) (k : Nat) : bytesH n (k + 1) = bytesH n k ++ [byH n k] := by unfold bytesH; rw [List.range_succ, List.map_append]; rfl
theorem bytesH_len (n : Int) (k : Nat) : (bytesH n k).length = k := by unfold bytesH; simp
def setB (n : Int) (k : Nat) : List UInt8 := bytesH n k ++ List.replicate (8 - k) 0
theorem setB_len (n : Int) (k : Nat) (h : k ≤ 8) : (setB n k).length = 8 := by unfold setB; rw [List.length_append, bytesH_len, List.length_replicate]; omega
theorem setB_succ (n : Int) (k : Nat) (h : k < 8) : setB n (k + 1) = (setB n k).set k (byH n k) := by
  have e : List.replicate (8 - k) (0 : UInt8) = 0 :: List.replicate (8 - (k + 1)) 0 := by rw [show 8 - k = (8 - (k + 1)) + 1 by omega]; rfl
  unfold setB
  rw [bytesH_succ, e, List.set_append_right _ _ (by rw [bytesH_len]; exact Nat.le_refl _), bytesH_len, Nat.sub_self, List.set_cons_zero, List.append_assoc]; rfl
theorem setB_all (n : Int) : setB n 8 = bytesH n 8 := by unfold setB; simp
/-- the text of a body's tag -/
def makeT (l : List UInt8) : List UInt8 := hexL (bytesH (hashI l) 8) ++ [45] ++ Lib.decDigits l.length
/-- what the variables hold -/
structure EnvM (w : World) : Prop where
  env : EnvS w
  pow : Lib.TabIs Tryz.prog w "internal/strconv.uint64pow10" .u64 Lib.pow10Tab
theorem gPowM : Tryz.prog.globalNamed "internal/strconv.uint64pow10" = some 2 := by kernel_rfl
theorem EnvM.next {w w' : World} (h : EnvM w) (hb : Below w.heap.size w w') : EnvM w' :=
  ⟨h.env.next hb, var?_below hb gPowM (Nat.lt_of_lt_of_le (by decide) h.env.n) h.pow⟩
theorem decDigits_short (N : Nat) (h0 : N ≤ 1048576) : (Lib.decDigits N).length ≤ 21 := by
  have h := Lib.itoa_length_le (N : Int) (by omega) (by omega)
  unfold Lib.itoa at h
  rw [if_neg (by omega)] at h
  exact h

theorem made8 (j : Nat) (h : j < 8) (n : Int) : (madeCells #[Value.int .u8 0] 8).toList[j]? = some (.int .u8 (((setB n 0).getD j 0).toNat : Int)) := by
  have e1 : (madeCells #[Value.int .u8 0] 8).toList = List.replicate 8 (Value.int .u8 0) := by kernel_rfl
  have e2 : setB n 0 = List.replicate 8 0 := rfl
  rw [e1, e2]
  have hc : j = 0 ∨ j = 1 ∨ j = 2 ∨ j = 3 ∨ j = 4 ∨ j = 5 ∨ j = 6 ∨ j = 7 := by omega
  rcases hc with rfl | rfl | rfl | rfl | rfl | rfl | rfl | rfl <;> rfl
set_option maxRecDepth 100000 in
theorem make_any (s : ByteArray) (b : Bool) (w : World) (hE : EnvM w) (hs : s.size ≤ 1048576) :
    Calls Tryz.prog 14 #[.string s, .bool b] w fun e w' => e = .returned (.agg #[.bool b, .string (bs (makeT (L s)))]) ∧ Below w.heap.size w w' := by
  have HF := Lib.hid (fun wx => fnv_any s wx hs)
  have hr := hashI_range (L s)
  have HT : Hid (makeT (L s) = hexL (bytesH (hashI (L s)) 8) ++ [45] ++ Lib.decDigits (L s).length) := rfl
  rw [L_length] at HT
  obtain ⟨n, hn⟩ := name_it (hashI (L s))
  rw [hn.out] at HF hr HT
  obtain ⟨n0, n1⟩ := hr
  obtain ⟨R, hR⟩ := name_it (makeT (L s))
  rw [hR.out] at HT ⊢
  have HX := Lib.hid (fun wx => hex_any (bs (bytesH n 8)) wx (by rw [size_bs, bytesH_len]; decide))
  rw [L_bs] at HX
  have hxl := hexL_len (bytesH n 8)
  rw [bytesH_len] at hxl
  have hdl := decDigits_short s.size hs
  have HI := Lib.hid (fun wx (h : EnvM wx) => Tryz.strconv_Itoa (s.size : Int) (by omega) (by omega) wx h.pow)
  have hit : Lib.itoa (s.size : Int) = Lib.decDigits s.size := by unfold Lib.itoa; rw [if_neg (by omega)]; rfl
  obtain ⟨X, hX⟩ := name_it (bs (hexL (bytesH n 8)))
  rw [hX.out] at HX
  have hXz : X.size = 16 := by rw [← hX.out, size_bs]; omega
  have HXL : Hid (L X = hexL (bytesH n 8)) := by unfold Hid; rw [← hX.out, L_bs]
  have HIT := Lib.hid hit
  have hIz : (⟨(Lib.itoa (s.size : Int)).toArray⟩ : ByteArray).size ≤ 21 := by rw [hit]; show (Lib.decDigits s.size).toArray.size ≤ 21; simpa using hdl
  obtain ⟨I, hI⟩ := name_it (⟨(Lib.itoa (s.size : Int)).toArray⟩ : ByteArray)
  have HIL : Hid (L I = Lib.decDigits s.size) := by unfold Hid; rw [← hI.out, hit]; rfl
  rw [hI.out] at HI hIz
  clear hn hR hX hxl hdl hit hI
  obtain ⟨i0, hi, hz0, hz1, hz2⟩ := info_parts infoU8
  have A0 : Hid (Blk (w.alloc (.cells #[.bool false, .string ⟨#[]⟩] tT)) w.heap.size tT #[.bool false, .string ⟨#[]⟩]) := Blk.new w tT _
  have hb0 : Below w.heap.size w (w.alloc (.cells #[.bool false, .string ⟨#[]⟩] tT)) := (Below.refl _ _).alloc (Nat.le_refl _) _
  have B0 := Lib.hid hb0
  have HE := Lib.hid hE
  clear hb0 hE
  go_enter Tryz.func14, Tryz.ntmps14
  go_wp2_with fail
  refine (HF.out _).mono ?_; rintro e w1 ⟨rfl, rfl⟩
  go_wp2_with (at_make; refine wpList_make_full _ rfl _ _ 77 rfl w.heap.size 5 i0 (.int .u8 0) 1 Tryz.underlying77 hi hz0 hz1 _ _ _ _ 8 rfl rfl rfl rfl (by rw [hz2]; omega) (by unfold maxLen; omega) (by simp) ?_)
  intro w1 hown1 hgrow1
  have d1 : Below (w.alloc (.cells #[.bool false, .string ⟨#[]⟩] tT)).heap.size (w.alloc (.cells #[.bool false, .string ⟨#[]⟩] tT)) w1 := (Below.refl _ _).grown hgrow1 (Nat.le_refl _) (fun k hk => by cases hk)
  have A1 := Lib.hid (A0.out.below d1 A0.out.lt)
  have B1 := Lib.hid (B0.out.trans (d1.mono B0.out.size))
  have z1 : (w.alloc (.cells #[.bool false, .string ⟨#[]⟩] tT)).heap.size = w.heap.size + 1 := Array.size_push ..
  obtain ⟨cur, hcur⟩ : ∃ cur, w1.heap[w.heap.size + 1]? = some (.cells cur 5 (0, 0)) := by
    rcases hown1.2 with ⟨h', _⟩ | ⟨g', cap', cur, h', hb, hg, hnc, hcm, hcs, htake⟩
    · simp at h'
    · simp only [Value.slice.injEq, Option.some.injEq, Addr.mk.injEq, and_true, true_and] at h'
      obtain ⟨rfl, rfl⟩ := h'
      exact ⟨cur, hg⟩
  have R0 : Hid (ByteRow w1 (w.heap.size + 1) (setB n 0)) := by
    refine ⟨fun j hj => ?_, fun j _ => Blk.frozen (T := 5) (C := cur) hcur j, (Array.getElem?_eq_some_iff.1 hcur).1⟩
    have h1 := hown1.cellAt j (by rw [setB_len n 0 (by omega)] at hj; exact hj)
    refine h1.trans ?_
    rw [setB_len n 0 (by omega)] at hj
    exact made8 j hj n
  have KB : Hid (Below (w.heap.size + 1) w1 w1) := Below.refl _ _
  clear hown1 hgrow1 d1 hcur A0 B0 hz0 hz1 hz2 hi z1
  have m0lt : Hid (w.heap.size < w.heap.size + 1) := Nat.lt_succ_self _
  have HML : Hid (w.heap.size + 1 ≤ w1.heap.size) := Nat.le_of_lt R0.out.lt
  go_wp2_with fail
  go_loopw [7, 13] (fun _ i wr => ∃ (k : Nat), k ≤ 8 ∧ i = .int .i64 k ∧ Hid (ByteRow wr (w.heap.size + 1) (setB n k)) ∧ Hid (Below (w.heap.size + 1) w1 wr)) (fun _ i _ => 8 - (intOf i).toNat)
  case atStart => exact ⟨0, by omega, rfl, R0, KB⟩
  clear R0 KB
  case round =>
    obtain ⟨k, hk, rfl, hr, hB⟩ := hrel
    obtain ⟨wq, hwq⟩ : ∃ wq, wq = wr := ⟨wr, rfl⟩
    subst hwq
    by_cases hlt : k < 8
    · have q0 : (0 : Int) ≤ (k : Int) := by omega
      have q1 : (k : Int) < 8 := by omega
      have hc := hr.out.cell k (by rw [setB_len _ _ hk]; exact hlt)
      have hf := hr.out.free k (by rw [setB_len _ _ hk]; exact hlt)
      have hs1 := hr.out.set k (by rw [setB_len _ _ hk]; exact hlt) (byH n k)
      rw [← setB_succ n k hlt, byH_eq] at hs1
      have R1 := Lib.hid hs1
      have B2 := Lib.hid (hB.out.setCell (p := ⟨w.heap.size + 1, k, none⟩) (Nat.le_refl _) (.int .u8 (n / 2 ^ (56 - 8 * k) % 256)))
      obtain ⟨x, hx⟩ := name_it (((setB n k).getD k 0).toNat : Int)
      rw [hx.out] at hc
      clear hs1 hx
      go_wp2_with fail
      all_goals (try (exfalso; omega))
      go_roundw
      case rel => exact ⟨k + 1, by omega, by go_num, R1, B2⟩
      case measure => simp [intOf] <;> omega
    · obtain rfl : k = 8 := by omega
      have hr2 := hr.out
      rw [setB_all] at hr2
      have hback := conv_back (P := Tryz.prog) 77 9 5 (cap := 8) (n := 8) hr2 (by rw [bytesH_len]) Tryz.underlying77 Tryz.underlying5 Tryz.underlying9
      have A2 : Hid (Blk wq w.heap.size tT #[.bool false, .string ⟨#[]⟩]) := A1.out.below hB.out m0lt.out
      have B2 : Hid (Below w.heap.size w wq) := B1.out.trans (hB.out.mono (Nat.le_of_lt m0lt.out))
      have E2 := Lib.hid (HE.out.next B2.out)
      clear hr hr2 hB
      go_wp2_with fail
      all_goals (try (exfalso; omega))
      refine (HX.out _).mono ?_; rintro e w3 ⟨rfl, b3⟩
      have A3 := Lib.hid (A2.out.below b3 A2.out.lt)
      have B3 := Lib.hid (B2.out.trans (b3.mono B2.out.size))
      have E3 := Lib.hid (E2.out.next b3)
      clear b3 A2 B2 E2 hback HX
      go_wp2_with fail
      all_goals (try (exfalso; omega))
      refine (HI.out _ E3.out).mono ?_; rintro e w4 ⟨rfl, k4, os4, h4⟩
      have b4 : Below w3.heap.size w3 w4 := by rw [h4]; exact below_grow k4 os4
      have A4 := Lib.hid (A3.out.below b4 A3.out.lt)
      have B4 := Lib.hid (B3.out.trans (b4.mono B3.out.size))
      clear b4 h4 A3 B3 E3 HI
      have y0 : w4.cell? ⟨w.heap.size, 0, none⟩ = some (.bool false) := A4.out.cell 0
      have y1 : w4.cell? ⟨w.heap.size, 1, none⟩ = some (.string ⟨#[]⟩) := A4.out.cell 1
      have f0 : w4.frozen? ⟨w.heap.size, 0, none⟩ = false := A4.out.frozen 0
      have f1 : w4.frozen? ⟨w.heap.size, 1, none⟩ = false := A4.out.frozen 1
      have F5 := fun v1 v2 => Lib.hid ((A4.out.set 0 v1).set 1 v2)
      have B5 := fun v1 v2 => Lib.hid ((B4.out.setCell (p := ⟨w.heap.size, 0, none⟩) (Nat.le_refl _) v1).setCell (p := ⟨w.heap.size, 1, none⟩) (Nat.le_refl _) v2)
      have hz45 : (⟨#[45]⟩ : ByteArray).size = 1 := rfl
      go_wp2_with fail
      all_goals (try (exfalso; omega))
      have hbs : bs R = X ++ ⟨#[45]⟩ ++ I := by
        apply L_inj.1
        rw [L_bs, HT.out, ← HXL.out, ← HIL.out]
        simp [L, ByteArray.data_append]
      have F6 := F5 (.bool b) (.string (X ++ ⟨#[45]⟩ ++ I))
      have z0 : ((w4.setCell ⟨w.heap.size, 0, none⟩ (.bool b)).setCell ⟨w.heap.size, 1, none⟩ (.string (X ++ ⟨#[45]⟩ ++ I))).cell? ⟨w.heap.size, 0, none⟩ = some (.bool b) := F6.out.cell 0
      have z1 : ((w4.setCell ⟨w.heap.size, 0, none⟩ (.bool b)).setCell ⟨w.heap.size, 1, none⟩ (.string (X ++ ⟨#[45]⟩ ++ I))).cell? ⟨w.heap.size, 1, none⟩ = some (.string (X ++ ⟨#[45]⟩ ++ I)) := F6.out.cell 1
      refine bodyPost_ret (v := .agg #[.bool b, .string (X ++ ⟨#[45]⟩ ++ I)]) (by simp [results, Tryz.results14, go_sem, z0, z1]) rfl ⟨by rw [hbs], (B5 _ _).out⟩
end Go.Proofs.YtjalfddedikibaaGreatDoor
