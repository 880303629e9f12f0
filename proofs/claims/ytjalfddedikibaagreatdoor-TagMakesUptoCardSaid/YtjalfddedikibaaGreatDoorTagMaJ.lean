/- Contracts of base's Fnv and Hex. -/
import Derived.Test.YtjalfddedikibaaGreatDoorTagWJ
import Derived.Test.YtjalfddedikibaaGreatDoorMn
import Derived.Test.YtjalfddedikibaaGreatDoorMc
namespace Go.Proofs.YtjalfddedikibaaGreatDoor
open Go Go.RowKit
set_option maxHeartbeats 4000000

/-- one step of the sum -/
def stepF (n : Int) (c : UInt8) : Int := IntKind.u64.wrap (bits BinOp.xor IntKind.u64 n (IntKind.u64.wrap (c.toNat : Int)) * 1099511628211)
theorem wrap64_range (n : Int) : 0 ≤ IntKind.u64.wrap n ∧ IntKind.u64.wrap n < 18446744073709551616 := by
  simp [IntKind.wrap, IntKind.bits, IntKind.signed]
  omega
def hashI (l : List UInt8) : Int := l.foldl stepF 14695981039346656037
theorem hashI_snoc (l : List UInt8) (c : UInt8) : hashI (l ++ [c]) = stepF (hashI l) c := by unfold hashI; rw [List.foldl_append]; rfl
theorem hashI_range (l : List UInt8) : 0 ≤ hashI l ∧ hashI l < 18446744073709551616 := by
  refine snoc_ind (P := fun l => 0 ≤ hashI l ∧ hashI l < 18446744073709551616) ?_ ?_ l
  · unfold hashI; simp
  · intro l c _
    rw [hashI_snoc]
    exact wrap64_range _

set_option maxRecDepth 100000 in
theorem fnv_any (s : ByteArray) (w : World) (hs : s.size ≤ 1048576) : Calls Tryz.prog 34 #[.string s] w fun e w' => e = .returned (.int .u64 (hashI (L s))) ∧ w = w' := by
  have h00 : Hid (hashI ((L s).take 0) = 14695981039346656037) := rfl
  obtain ⟨R, hR⟩ := name_it (hashI (L s))
  rw [hR.out]
  go_enter Tryz.func34, Tryz.ntmps34
  go_wp2_with fail
  go_loop [3, 4, 7] (fun h _ i => ∃ (k : Nat) (n : Int), k ≤ s.size ∧ i = .int .i64 k ∧ h = .int .u64 n ∧ 0 ≤ n ∧ n < 18446744073709551616 ∧ Hid (hashI ((L s).take k) = n)) (fun _ _ i => s.size - (intOf i).toNat)
  case atStart => exact ⟨0, _, Nat.zero_le _, rfl, rfl, by omega, by omega, h00⟩
  clear h00
  case round =>
    obtain ⟨k, n, hk, rfl, rfl, h0, h1, hh⟩ := hrel
    by_cases hlt : k < s.size
    · have q0 : (0 : Int) ≤ (k : Int) := by omega
      have q1 : (k : Int) < (s.size : Int) := by omega
      have ht := L_take hlt
      obtain ⟨c, hc⟩ := name_it s[k]
      rw [hc.out] at ht
      have hck := hc.out
      have HN : Hid (hashI ((L s).take (k + 1)) = IntKind.u64.wrap (bits BinOp.xor IntKind.u64 n (IntKind.u64.wrap (c.toNat : Int)) * 1099511628211)) := by
        unfold Hid; rw [ht, hashI_snoc, hh.out]; rfl
      have HW := Lib.hid (wrap64_range (bits BinOp.xor IntKind.u64 n (IntKind.u64.wrap (c.toNat : Int)) * 1099511628211))
      clear ht
      go_wp2_with fail
      all_goals (try (exfalso; omega))
      go_round
      case rel => exact ⟨k + 1, _, by omega, by go_num, rfl, HW.out.1, HW.out.2, HN⟩
      case measure => simp [intOf] <;> omega
    · obtain rfl : k = s.size := by omega
      have hf : Hid (R = n) := by unfold Hid; rw [← hR.out, ← hh.out, L_take_all]
      go_wp2_with fail
      all_goals (try (exfalso; omega))
      go_ret
      exact ⟨ret_int (by rw [hf.out]), rfl⟩

abbrev hexS : ByteArray := ⟨#[48, 49, 50, 51, 52, 53, 54, 55, 56, 57, 97, 98, 99, 100, 101, 102]⟩
def hexD (j : Nat) : UInt8 := if h : j < hexS.size then hexS[j] else 0
theorem hexD_eq {j : Nat} (h : j < hexS.size) : hexD j = hexS[j] := dif_pos h
def hexL (l : List UInt8) : List UInt8 := l.flatMap fun c => [hexD (c.toNat / 16), hexD (c.toNat % 16)]
theorem hexL_snoc (l : List UInt8) (c : UInt8) : hexL (l ++ [c]) = hexL l ++ [hexD (c.toNat / 16)] ++ [hexD (c.toNat % 16)] := by unfold hexL; rw [List.flatMap_append]; simp
theorem hexL_len (l : List UInt8) : (hexL l).length = 2 * l.length := by
  induction l with
  | nil => rfl
  | cons c l ih =>
    show (([hexD (c.toNat / 16), hexD (c.toNat % 16)] : List UInt8) ++ hexL l).length = _
    rw [List.length_append, ih, List.length_cons]; simp; omega
theorem byteCells_snocL (l : List UInt8) (c : UInt8) : Lib.byteCells (l ++ [c]) = Lib.byteCells l ++ [.int .u8 (c.toNat : Int)] := by
  simp [Lib.byteCells]

set_option maxRecDepth 100000 in
theorem hex_any (s : ByteArray) (w : World) (hs : s.size ≤ 1048576) : Calls Tryz.prog 35 #[.string s] w fun e w' => e = .returned (.string (bs (hexL (L s)))) ∧ Below w.heap.size w w' := by
  have z0 : (⟨#[48, 49, 50, 51, 52, 53, 54, 55, 56, 57, 97, 98, 99, 100, 101, 102]⟩ : ByteArray).size = 16 := rfl
  have F0 : Hid (Lib.IsBuilder 101 5 w.heap.size w.heap.size (Lib.byteCells (hexL ((L s).take 0))) (w.alloc (.cells #[.pointer none, .slice none 0 0] 101))) := Lib.fresh_isBuilder 101 5 w
  have B0 : Hid (Below w.heap.size w (w.alloc (.cells #[.pointer none, .slice none 0 0] 101))) := (Below.refl _ _).alloc (Nat.le_refl _) _
  go_enter Tryz.func35, Tryz.ntmps35
  go_wp2_with fail
  go_loopw [4, 7] (fun _ i wr => ∃ (k : Nat), k ≤ s.size ∧ i = .int .i64 k ∧ Hid (Lib.IsBuilder 101 5 w.heap.size w.heap.size (Lib.byteCells (hexL ((L s).take k))) wr) ∧ Hid (Below w.heap.size w wr)) (fun _ i _ => s.size - (intOf i).toNat)
  case atStart => exact ⟨0, Nat.zero_le _, rfl, F0, B0⟩
  clear F0 B0
  case round =>
    obtain ⟨k, hk, rfl, hF, hB⟩ := hrel
    obtain ⟨wq, hwq⟩ : ∃ wq, wq = wr := ⟨wr, rfl⟩
    subst hwq
    have HLN : Hid ((hexL ((L s).take k)).length ≤ 2097152) := by
      unfold Hid
      rw [hexL_len, List.length_take]
      omega
    by_cases hlt : k < s.size
    · have q0 : (0 : Int) ≤ (k : Int) := by omega
      have q1 : (k : Int) < (s.size : Int) := by omega
      have ht := L_take hlt
      obtain ⟨c, hc⟩ := name_it s[k]
      rw [hc.out] at ht
      have hck := hc.out
      have hc0 := c.toNat_lt
      have HT : Hid (hexL ((L s).take (k + 1)) = hexL ((L s).take k) ++ [hexD (c.toNat / 16)] ++ [hexD (c.toNat % 16)]) := by unfold Hid; rw [ht, hexL_snoc]
      have hd1 : c.toNat / 16 < hexS.size := by show _ < 16; omega
      have hd2 : c.toNat % 16 < hexS.size := by show _ < 16; omega
      have E1 := Lib.hid (hexD_eq hd1)
      have E2 := Lib.hid (hexD_eq hd2)
      clear ht
      go_wp2_with fail
      all_goals (try (exfalso; omega))
      refine (Tryz.Builder_WriteByte w.heap.size w.heap.size _ _ _ hF.out (by rw [Lib.byteCells_length]; have := HLN.out; omega) hB.out.size).mono ?_
      rintro e w2 ⟨rfl, hbd2, hb2⟩
      have F2 : Hid (Lib.IsBuilder 101 5 w.heap.size w.heap.size (Lib.byteCells (hexL ((L s).take k) ++ [hexD (c.toNat / 16)])) w2) := by
        unfold Hid; rw [byteCells_snocL, E1.out]; exact Or.inr hbd2
      have B2 := Lib.hid (hB.out.trans hb2)
      clear hbd2 hb2
      go_wp2_with fail
      all_goals (try (exfalso; omega))
      refine (Tryz.Builder_WriteByte w.heap.size w.heap.size _ _ _ F2.out (by rw [Lib.byteCells_length, List.length_append, List.length_singleton]; have := HLN.out; omega) B2.out.size).mono ?_
      rintro e w3 ⟨rfl, hbd3, hb3⟩
      have F3 : Hid (Lib.IsBuilder 101 5 w.heap.size w.heap.size (Lib.byteCells (hexL ((L s).take (k + 1)))) w3) := by
        unfold Hid; rw [HT.out, byteCells_snocL _ (hexD (c.toNat % 16)), E2.out]; exact Or.inr hbd3
      have B3 := Lib.hid (B2.out.trans hb3)
      clear hbd3 hb3 F2 B2
      go_wp2_with fail
      all_goals (try (exfalso; omega))
      go_roundw
      case rel => exact ⟨k + 1, by omega, by go_num, F3, B3⟩
      case measure => simp [intOf] <;> omega
    · obtain rfl : k = s.size := by omega
      rw [L_take_all] at hF
      go_wp2_with fail
      all_goals (try (exfalso; omega))
      refine (Tryz.Builder_String_any _ _ (hexL (L s)) _ hF.out hB.out.size).mono ?_; rintro e w4 ⟨rfl, hb4⟩
      have B4 := Lib.hid (hB.out.trans hb4)
      clear hb4
      go_wp2_with fail
      go_ret
      exact ⟨rfl, B4.out⟩
end Go.Proofs.YtjalfddedikibaaGreatDoor
