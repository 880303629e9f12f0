/- Contracts of octet: classes of bytes, fields, decimal numbers (program and reference). -/
import Derived.Test.YtnodboggemggmaaGreatDoorOctetA
import Derived.Test.YtnodboggemggmaaGreatDoorShelf
namespace Go.Proofs.YtnodboggemggmaaGreatDoor
open Go Go.RowKit
set_option maxHeartbeats 1000000

def isDig (c : UInt8) : Bool := decide (48 ≤ c.toNat ∧ c.toNat ≤ 57)
theorem isdigit_any (c : UInt8) (w : World) : Calls Tryz.prog 102 #[.int .u8 c.toNat] w fun e w' => e = .returned (.bool (isDig c)) ∧ w = w' := by
  obtain ⟨R, hR⟩ := name_it (isDig c)
  rw [hR.out]
  go_enter Tryz.func102, Tryz.ntmps102
  go_wp2
  all_goals go_ret
  all_goals exact ⟨ret_bool (by rw [← hR.out, Bool.eq_iff_iff]; simp [isDig]; omega), rfl⟩

def isFld (c : UInt8) : Bool := decide (c.toNat = 9 ∨ (32 ≤ c.toNat ∧ c.toNat ≠ 127))
theorem isfldbyte_any (c : UInt8) (w : World) : Calls Tryz.prog 47 #[.int .u8 c.toNat] w fun e w' => e = .returned (.bool (isFld c)) ∧ w = w' := by
  obtain ⟨R, hR⟩ := name_it (isFld c)
  rw [hR.out]
  go_enter Tryz.func47, Tryz.ntmps47
  go_wp2
  all_goals go_ret
  all_goals exact ⟨ret_bool (by rw [← hR.out, Bool.eq_iff_iff]; (try simp only [] at *); simp [isFld]; omega), rfl⟩
theorem isbyte_any (c : UInt8) (w : World) : Calls Tryz.prog 58 #[.int .u8 c.toNat] w fun e w' => e = .returned (.bool (isFld c)) ∧ w = w' := by
  obtain ⟨R, hR⟩ := name_it (isFld c)
  rw [hR.out]
  go_enter Tryz.func58, Tryz.ntmps58
  go_wp2
  all_goals go_ret
  all_goals exact ⟨ret_bool (by rw [← hR.out, Bool.eq_iff_iff]; (try simp only [] at *); simp [isFld]; omega), rfl⟩

theorem isfield_any (s : ByteArray) (w : World) (hs : s.size ≤ maxLen) : Calls Tryz.prog 25 #[.string s] w fun e w' => e = .returned (.bool ((L s).all isFld)) ∧ w = w' := by
  have s1 : (0 : Int) ≤ 1 := by omega
  have s2 : (0 : Int) ≤ 2 := by omega
  have s3 : (0 : Int) ≤ 3 := by omega
  unfold maxLen at hs
  obtain ⟨R, hR⟩ := name_it ((L s).all isFld)
  rw [hR.out]
  go_enter Tryz.func25, Tryz.ntmps25
  go_wp2_with fail
  go_loop [3, 6] (fun _ i => ∃ k : Nat, k ≤ s.size ∧ i = .int .i64 k ∧ Hid (((L s).drop k).all isFld = R)) (fun _ i => s.size - (intOf i).toNat)
  case atStart => exact ⟨0, Nat.zero_le _, rfl, hR⟩
  case round =>
    obtain ⟨k, hk, rfl, hr⟩ := hrel
    by_cases hlt : k < s.size
    · cases hb : isFld s[k]
      all_goals
        have hr2 := hr.out
        rw [L_drop hlt, List.all_cons, hb] at hr2
        have HR := Lib.hid hr2; clear hr2 hr
        go_wp2_with (go_at_call 47; refine (isfldbyte_any _ _).mono ?_; rintro e w' ⟨rfl, rfl⟩)
      · go_ret
        exact ⟨ret_bool (by rw [← HR.out]; rfl), rfl⟩
      · go_round
        case rel => exact ⟨k + 1, by omega, by go_num, Lib.hid (by have h := HR.out; simpa using h)⟩
        case measure => simp [intOf]; omega
    · obtain rfl : k = s.size := by omega
      rw [L_drop_all] at hr
      go_wp2_with fail
      go_ret
      exact ⟨ret_bool (by rw [← hr.out]; rfl), rfl⟩

/-! Decimal numbers. -/
def dg (c : UInt8) : Int := (c.toNat : Int) - 48
def valOf (l : List UInt8) : Int := l.foldl (fun n c => 10 * n + dg c) 0
theorem valOf_nil : valOf [] = 0 := rfl
theorem valOf_snoc (l : List UInt8) (c : UInt8) : valOf (l ++ [c]) = 10 * valOf l + dg c := by simp [valOf]
theorem dg_bd {c : UInt8} (h : isDig c = true) : 0 ≤ dg c ∧ dg c ≤ 9 := by simp [isDig] at h; unfold dg; omega
theorem valOf_nonneg : ∀ (l : List UInt8), l.all isDig = true → 0 ≤ valOf l := by
  intro l
  refine snoc_ind (P := fun l => l.all isDig = true → 0 ≤ valOf l) ?_ ?_ l
  · intro _; simp [valOf]
  · intro l c ih h
    simp only [List.all_append, Bool.and_eq_true, List.all_cons, List.all_nil, Bool.and_true] at h
    rw [valOf_snoc]
    have := ih h.1
    have := dg_bd h.2
    omega
theorem valOf_take (l : List UInt8) (h : l.all isDig = true) : ∀ k, valOf (l.take k) ≤ valOf l := by
  revert h
  refine snoc_ind (P := fun l => l.all isDig = true → ∀ k, valOf (l.take k) ≤ valOf l) ?_ ?_ l
  · intro _ k; simp
  · intro l c ih h k
    simp only [List.all_append, Bool.and_eq_true, List.all_cons, List.all_nil, Bool.and_true] at h
    by_cases hk : k ≤ l.length
    · rw [List.take_append_of_le_length hk, valOf_snoc]
      have := ih h.1 k
      have := valOf_nonneg l h.1
      have := dg_bd h.2
      omega
    · rw [List.take_of_length_le (by simp; omega)]; exact Int.le_refl _
def decE (l : List UInt8) (most : Int) : Int := if l = [] ∨ l.all isDig = false then 11 else if valOf l ≤ most then 0 else 12
def decN (l : List UInt8) (most : Int) : Int := if decE l most = 0 then valOf l else 0

def hexDigits : ByteArray := ⟨#[48, 49, 50, 51, 52, 53, 54, 55, 56, 57, 97, 98, 99, 100, 101, 102]⟩
def digIdx (x : UInt8) : Int := Lib.indexByte hexDigits.data.toList (lowerB x)
theorem digIdx_all : ∀ p : Fin 256, (isDig (UInt8.ofNat p.val) = true → digIdx (UInt8.ofNat p.val) = dg (UInt8.ofNat p.val)) ∧ (isDig (UInt8.ofNat p.val) = false → digIdx (UInt8.ofNat p.val) < 0 ∨ 10 ≤ digIdx (UInt8.ofNat p.val)) ∧ -1 ≤ digIdx (UInt8.ofNat p.val) ∧ digIdx (UInt8.ofNat p.val) ≤ 15 := by decide +kernel
theorem digIdx_of (x : UInt8) : (isDig x = true → digIdx x = dg x) ∧ (isDig x = false → digIdx x < 0 ∨ 10 ≤ digIdx x) ∧ -1 ≤ digIdx x ∧ digIdx x ≤ 15 := by
  have h := digIdx_all ⟨x.toNat, UInt8.toNat_lt x⟩
  simpa using h
theorem index_hex (x : UInt8) (w : World) : Calls Tryz.prog 46 #[.string hexDigits, .int .u8 ((lowerB x).toNat : Int)] w fun e w' => e = .returned (.int .i64 (digIdx x)) ∧ w = w' := by
  refine (Tryz.strings_IndexByte hexDigits ((lowerB x).toNat : Int) w).mono ?_
  rintro e w' ⟨rfl, rfl⟩
  refine ⟨ret_int ?_, rfl⟩
  unfold digIdx
  simp

theorem lower_one (x : UInt8) (w : World) : Calls Tryz.prog 35 #[.string (bs [x])] w fun e w' => e = .returned (.string (bs [lowerB x])) ∧ Below w.heap.size w w' :=
  lower_any (bs [x]) w (by rw [size_bs]; unfold maxLen; simp)
theorem one_size (x : UInt8) : 0 < (bs [x]).size := by rw [size_bs]; simp
theorem one_get (x : UInt8) (h : 0 < (bs [x]).size) : (bs [x])[0] = x := rfl
theorem number_any (s : ByteArray) (most : Int) (w : World) (hs : s.size ≤ maxLen) (m0 : 0 ≤ most) (m1 : most ≤ 4611686018427387904) :
    Calls Tryz.prog 86 #[.string s, .int .i64 most, .int .i64 10] w fun e w' => e = .returned (.tuple #[.int .i64 (decN (L s) most), .int .i64 (decE (L s) most)]) ∧ Below w.heap.size w w' := by
  unfold maxLen at hs
  obtain ⟨N, hN⟩ := name_it (decN (L s) most)
  obtain ⟨E, hE⟩ := name_it (decE (L s) most)
  rw [hN.out, hE.out]
  have hL := L_length s
  by_cases he : s.size = 0
  · have hl : L s = [] := List.eq_nil_of_length_eq_zero (by omega)
    have h1 : s.toList = [] := by rw [toList_L]; exact hl
    have ho : Hid (N = 0 ∧ E = 11) := by
      rw [← hN.out, ← hE.out]; simp [decN, decE, hl, Hid]
    clear hN hE hl
    go_enter Tryz.func86, Tryz.ntmps86
    go_wp2_with fail
    go_ret2
    exact ⟨by rw [ho.out.1, ho.out.2]; rfl, Below.refl _ _⟩
  · have h1 : s.toList.isEmpty = false := by
      rw [str_empty]; exact decide_eq_false (fun h => he (by rw [← hL, h]; rfl))
    have h2 : s.toList ≠ [] := by rw [toList_L]; intro h; exact he (by rw [← hL, h]; rfl)
    have hm : decide (most < 0) = false := decide_eq_false (by omega)
    go_enter Tryz.func86, Tryz.ntmps86
    go_wp2_with fail
    clear h1 h2 hm
    have HN := Lib.hid hN; have HE := Lib.hid hE
    clear hN hE
    go_loopw [8, 9, 10, 11, 18] (fun n b _ _ i wr => ∃ k : Nat, k ≤ s.size ∧ i = .int .i64 k ∧ Hid (((L s).take k).all isDig = true) ∧
        (∃ (v : Int) (big : Bool), n = .int .i64 v ∧ b = .bool big ∧ 0 ≤ v ∧ v ≤ most ∧ Hid (if big = true then most < valOf ((L s).take k) else v = valOf ((L s).take k))) ∧ Below w.heap.size w wr) (fun _ _ _ _ i _ => s.size - (intOf i).toNat)
    case atStart => exact ⟨0, Nat.zero_le _, rfl, Lib.hid rfl, ⟨0, false, rfl, rfl, Int.le_refl _, m0, Lib.hid rfl⟩, Below.refl _ _⟩
    case round =>
      obtain ⟨k, hk, rfl, had, ⟨v, big, rfl, rfl, v0, v1, hv⟩, hbr⟩ := hrel
      by_cases hlt : k < s.size
      · have hx : Hid (s.extract k (k + 1) = bs [s[k]]) := by
          unfold Hid; rw [extract_bs, L_take hlt, List.drop_append_of_le_length (by rw [List.length_take]; omega), List.drop_of_length_le (by rw [List.length_take]; omega)]; rfl
        obtain ⟨x, hx1⟩ := name_it s[k]
        have hx2 : Hid (s.extract k (k + 1) = bs [x]) := by rw [← hx1.out]; exact hx
        have htk : Hid ((L s).take (k + 1) = (L s).take k ++ [x]) := by rw [← hx1.out]; exact L_take hlt
        clear hx hx1
        have hd := digIdx_of x
        obtain ⟨d, hdd⟩ := name_it (digIdx x)
        rw [hdd.out] at hd
        have hd1 := hd.2.2.1
        have hd2 := hd.2.2.2
        have HD := Lib.hid hd; clear hd
        go_wp2_with fail
        rw [hx2.out]
        refine (lower_one x _).mono ?_; rintro e w1 ⟨rfl, hb1⟩
        have hsz := one_size (lowerB x)
        have hget := one_get (lowerB x) hsz
        go_wp2_with fail
        refine (index_hex x _).mono ?_; rintro e w2 ⟨rfl, rfl⟩
        rw [hdd.out]
        have hb2 := hbr.trans (hb1.mono hbr.size)
        clear hget hsz hb1 hbr
        cases hdig : isDig x
        · have hD := HD.out.2.1 hdig
          have hfin : Hid (N = 0 ∧ E = 11) := by
            have hall : (L s).all isDig = false := by
              rw [Bool.eq_false_iff]; intro h
              rw [List.all_eq_true] at h
              have : x ∈ L s := List.mem_of_mem_take (i := k + 1) (by rw [htk.out]; simp)
              rw [h x this] at hdig; cases hdig
            rw [← HN.out.out, ← HE.out.out]; simp [decN, decE, hall, Hid]
          clear hdig HD HN HE hv htk had
          rcases hD with hD | hD
          all_goals
            go_wp2_with fail
            go_ret2
            exact ⟨by rw [hfin.out.1, hfin.out.2]; rfl, hb2⟩
        · have hD := HD.out.1 hdig
          have hdb := dg_bd hdig
          rw [← hD] at hdb
          have had' : Hid (((L s).take (k + 1)).all isDig = true) := by
            unfold Hid; rw [htk.out, List.all_append, had.out]; simp [hdig]
          have hval : Hid (valOf ((L s).take (k + 1)) = 10 * valOf ((L s).take k) + d) := by
            unfold Hid; rw [htk.out, valOf_snoc, hD]
          have hvn : Hid (0 ≤ valOf ((L s).take k)) := valOf_nonneg _ had.out
          clear hD hdig HD htk had
          cases big
          · have hv' : v = valOf ((L s).take k) := by simpa using hv.out
            have Hv := Lib.hid hv'; clear hv hv'
            by_cases hfit : 10 * v + d ≤ most
            · go_wp2_with fail
              go_roundw
              case rel => exact ⟨k + 1, by omega, by go_num, had', ⟨v * 10 + d, false, rfl, rfl, by omega, by omega, by unfold Hid; rw [hval.out, ← Hv.out]; simp; omega⟩, hb2⟩
              case measure => simp [intOf]; omega
            · have hfit' : most < 10 * v + d := by omega
              clear hfit
              by_cases hq : most / 10 < v
              all_goals
                go_wp2_with fail
                all_goals (try (exfalso; omega))
                go_roundw
                case rel => exact ⟨k + 1, by omega, by go_num, had', ⟨v, true, rfl, rfl, by omega, by omega, by unfold Hid; rw [hval.out, ← Hv.out]; simp; omega⟩, hb2⟩
                case measure => simp [intOf]; omega
          · have hv' : most < valOf ((L s).take k) := by simpa using hv.out
            have Hv := Lib.hid hv'; clear hv hv'
            go_wp2_with fail
            all_goals (try (exfalso; omega))
            go_roundw
            case rel => exact ⟨k + 1, by omega, by go_num, had', ⟨v, true, rfl, rfl, by omega, by omega, by have h1 := hval.out; have h2 := Hv.out; have h3 := hvn.out; unfold Hid; simp; omega⟩, hb2⟩
            case measure => simp [intOf]; omega
      · obtain rfl : k = s.size := by omega
        rw [L_take_all] at had hv
        have hfin : Hid (if big = true then N = 0 ∧ E = 12 else N = v ∧ E = 0) := by
          have hne : L s ≠ [] := fun h => he (by rw [← hL, h]; rfl)
          rw [← HN.out.out, ← HE.out.out]
          have h1 := hv.out
          unfold Hid
          cases big <;> simp at h1 ⊢
          · have : decE (L s) most = 0 := by simp [decE, hne, had.out]; omega
            exact ⟨by simp [decN, this, h1], this⟩
          · have : decE (L s) most = 12 := by simp [decE, hne, had.out]; omega
            exact ⟨by simp [decN, this], this⟩
        clear HN HE hv had
        cases big
        all_goals
          go_wp2_with fail
          go_ret2
          have h1 := hfin.out
          simp at h1
          exact ⟨by rw [h1.1, h1.2]; rfl, hbr⟩
theorem decimal_any (s : ByteArray) (most : Int) (w : World) (hs : s.size ≤ maxLen) (m0 : 0 ≤ most) (m1 : most ≤ 4611686018427387904) :
    Calls Tryz.prog 56 #[.string s, .int .i64 most] w fun e w' => e = .returned (.tuple #[.int .i64 (decN (L s) most), .int .i64 (decE (L s) most)]) ∧ Below w.heap.size w w' := by
  go_enter Tryz.func56, Tryz.ntmps56
  go_wp2_with fail
  refine (number_any s most _ hs m0 m1).mono ?_; rintro e w1 ⟨rfl, hb1⟩
  go_wp2_with fail
  go_ret2
  exact ⟨rfl, hb1⟩
end Go.Proofs.YtnodboggemggmaaGreatDoor
