/- Contracts of octet: the quoted text at the front (program and reference). -/
import Derived.Test.YtnodboggemggmaaGreatDoorOctetD
import Derived.Test.YtnodboggemggmaaGreatDoorBuilderLay
namespace Go.Proofs.YtnodboggemggmaaGreatDoor
open Go Go.RowKit
set_option maxHeartbeats 1000000

def unqGo : List UInt8 → List UInt8 → Nat → Option (List UInt8 × Nat)
  | [], _, _ => none
  | c :: r, acc, i =>
    if c.toNat = 34 then some (acc, i + 1)
    else if c.toNat = 92 then
      match r with
      | [] => none
      | d :: r' => if isFld d = true then unqGo r' (acc ++ [d]) (i + 2) else none
    else if isFld c = true then unqGo r (acc ++ [c]) (i + 1) else none
def unq (l : List UInt8) : Option (List UInt8 × Nat) :=
  match l with
  | [] => none
  | c :: r => if c.toNat = 34 then unqGo r [] 1 else none
def unqS (o : Option (List UInt8 × Nat)) : List UInt8 := match o with | none => [] | some p => p.1
def unqN (o : Option (List UInt8 × Nat)) : Int := match o with | none => 0 | some p => p.2
def unqE (o : Option (List UInt8 × Nat)) : Int := match o with | none => 13 | some _ => 0

theorem unqGo_quote (c : UInt8) (r acc : List UInt8) (i : Nat) (h : (c.toNat : Int) = 34) : unqGo (c :: r) acc i = some (acc, i + 1) := by
  unfold unqGo; rw [if_pos (by omega)]
theorem unqGo_back0 (c : UInt8) (acc : List UInt8) (i : Nat) (h : (c.toNat : Int) = 92) : unqGo [c] acc i = none := by
  unfold unqGo; rw [if_neg (by omega), if_pos (by omega)]
theorem unqGo_back1 (c d : UInt8) (r acc : List UInt8) (i : Nat) (h : (c.toNat : Int) = 92) : unqGo (c :: d :: r) acc i = if isFld d = true then unqGo r (acc ++ [d]) (i + 2) else none := by
  rw [unqGo, if_neg (by omega), if_pos (by omega)]
theorem unqGo_else (c : UInt8) (r acc : List UInt8) (i : Nat) (h1 : ¬ (c.toNat : Int) = 34) (h2 : ¬ (c.toNat : Int) = 92) : unqGo (c :: r) acc i = if isFld c = true then unqGo r (acc ++ [c]) (i + 1) else none := by
  rw [unqGo.eq_def]; simp only []; rw [if_neg (by omega), if_neg (by omega)]
theorem byteCells_snoc (l : List UInt8) (c : UInt8) : Lib.byteCells (l ++ [c]) = Lib.byteCells l ++ [.int .u8 (c.toNat : Int)] := by
  simp [Lib.byteCells]

theorem unquote_any (s : ByteArray) (w : World) (hs : s.size ≤ 1099511627776) :
    Calls Tryz.prog 33 #[.string s] w fun e w' => e = .returned (.tuple #[.string (bs (unqS (unq (L s)))), .int .i64 (unqN (unq (L s))), .int .i64 (unqE (unq (L s)))]) ∧ Below w.heap.size w w' := by
  obtain ⟨R, hR⟩ := name_it (unq (L s))
  rw [hR.out]
  have hnone : R = none → Hid (Value.tuple #[.string (bs (unqS R)), .int .i64 (unqN R), .int .i64 (unqE R)] = Value.tuple #[.string ⟨#[]⟩, .int .i64 0, .int .i64 13]) := by
    intro h; subst h; exact rfl
  obtain ⟨V, hV⟩ := name_it (Value.tuple #[.string (bs (unqS R)), .int .i64 (unqN R), .int .i64 (unqE R)])
  rw [hV.out]
  rw [hV.out] at hnone
  rcases hl : L s with _ | ⟨c, r⟩
  · obtain rfl : s = bs [] := by rw [← bs_L s, hl]
    have hno := hnone (by rw [← hR.out]; rfl)
    have h1 := bs_nil
    have h2 := bs_nil'
    clear hl hnone hR
    go_enter Tryz.func33, Tryz.ntmps33
    go_wp2_with fail
    go_ret3
    exact ⟨by rw [hno.out]; rfl, Below.refl _ _⟩
  · have h0 : 0 < s.size := by rw [← L_length, hl]; simp
    have hc0 : s[0] = c := by
      have : (L s)[0]'(by rw [hl]; simp) = c := by simp [hl]
      exact this
    have h1 : s.toList.isEmpty = false := by rw [toList_L, hl]; rfl
    have h2 : ¬ s.toList = [] := by rw [toList_L, hl]; simp
    have hl1 : (L s).drop 1 = r := by rw [hl]; rfl
    by_cases hq : (c.toNat : Int) = 34
    · have hR2 : Hid (unqGo ((L s).drop 1) [] 1 = R) := by
        unfold Hid; rw [hl1, ← hR.out, hl]; simp only [unq]; rw [if_pos (by omega)]
      have HL := Lib.hid hl
      clear hl hl1 hR
      have hqb : ((c.toNat : Int) != 34) = false := by simp [hq]
      have HQ := Lib.hid hq; clear hq
      go_enter Tryz.func33, Tryz.ntmps33
      go_wp2_with fail
      clear h1 h2 hc0 hqb
      go_loopw [6, 7] (fun i _ wr => ∃ (k : Nat) (acc : List UInt8), 1 ≤ k ∧ k ≤ s.size ∧ i = .int .i64 k ∧ acc.length ≤ k ∧ Hid (Lib.IsBuilder 64 5 w.heap.size w.heap.size (Lib.byteCells acc) wr) ∧ Hid (unqGo ((L s).drop k) acc k = R) ∧ Below w.heap.size w wr) (fun i _ _ => s.size - (intOf i).toNat)
      case atStart => exact ⟨1, [], by omega, by omega, rfl, by simp, Lib.hid (Lib.fresh_isBuilder _ _ w), hR2, (Below.refl _ _).alloc (Nat.le_refl _) _⟩
      case round =>
        obtain ⟨k, acc, hk1, hk, rfl, hacc, hbd, hr, hbr⟩ := hrel
        clear hR2 HL HQ
        by_cases hlt : k < s.size
        · obtain ⟨c, hc⟩ := name_it s[k]
          have hdr : Hid ((L s).drop k = c :: (L s).drop (k + 1)) := by rw [← hc.out]; exact L_drop hlt
          by_cases hq : (c.toNat : Int) = 34
          · have hres : Hid (V = Value.tuple #[.string (bs acc), .int .i64 (k + 1), .int .i64 0]) := by
              have := hr.out
              rw [hdr.out, unqGo_quote _ _ _ _ hq] at this
              unfold Hid; rw [← hV.out, ← this]; simp [unqS, unqN, unqE]
            have hqb : ((c.toNat : Int) == 34) = true := by simp [hq]
            have HQ := Lib.hid hq; clear hq
            have hck := hc.out
            go_wp2_with fail
            refine (Tryz.Builder_String_any _ _ acc _ hbd.out hbr.size).mono ?_; rintro e w2 ⟨rfl, hb2⟩
            go_wp2_with fail
            go_ret3
            exact ⟨by rw [hres.out]; rfl, hbr.trans hb2⟩
          · have hqb : ((c.toNat : Int) == 34) = false := by simp [hq]
            by_cases hbk : (c.toNat : Int) = 92
            · have hbkb : ((c.toNat : Int) == 92) = true := by simp [hbk]
              by_cases hend : k + 1 = s.size
              · have hno := hnone (by
                  have := hr.out
                  rw [hdr.out, List.drop_of_length_le (by rw [L_length]; omega), unqGo_back0 _ _ _ hbk] at this
                  exact this.symm)
                have hendb : ((k : Int) + 1 == (s.size : Int)) = true := by simp; omega
                have HQ := Lib.hid hq; have HB := Lib.hid hbk; have HE := Lib.hid hend; clear hq hbk hend hnone
                have hck := hc.out
                go_wp2_with fail
                go_ret3
                exact ⟨by rw [hno.out]; rfl, hbr⟩
              · have hlt2 : k + 1 < s.size := by omega
                obtain ⟨d, hd⟩ := name_it s[k + 1]
                have hdr2 : Hid ((L s).drop (k + 1) = d :: (L s).drop (k + 2)) := by rw [← hd.out]; exact L_drop hlt2
                have hstep := hr.out
                rw [hdr.out, hdr2.out, unqGo_back1 _ _ _ _ _ hbk] at hstep
                have HS := Lib.hid hstep
                have hendb : ((k : Int) + 1 == (s.size : Int)) = false := by simp; omega
                have HQ := Lib.hid hq; have HB := Lib.hid hbk; clear hq hbk hstep hend
                have hck := hc.out
                have hck2 := hd.out
                go_wp2_with fail
                refine (isfldbyte_any d _).mono ?_; rintro e w2 ⟨rfl, rfl⟩
                cases hf : isFld d
                · have hno := hnone (by have := HS.out; rw [hf] at this; exact this.symm)
                  have HF := Lib.hid hf; clear hf hnone
                  go_wp2_with fail
                  go_ret3
                  exact ⟨by rw [hno.out]; rfl, hbr⟩
                · have hr3 : Hid (unqGo ((L s).drop (k + 2)) (acc ++ [d]) (k + 2) = R) := by have := HS.out; rw [hf] at this; exact this
                  have HF := Lib.hid hf; clear hf
                  go_wp2_with fail
                  refine (Tryz.Builder_WriteByte _ _ _ _ _ hbd.out (by rw [Lib.byteCells_length]; omega) hbr.size).mono ?_; rintro e w2 ⟨rfl, hbd2, hb2⟩
                  have hbd3 : Hid (Lib.IsBuilder 64 5 w.heap.size w.heap.size (Lib.byteCells (acc ++ [d])) w2) := by rw [byteCells_snoc]; exact Or.inr hbd2
                  clear hbd2
                  go_wp2_with fail
                  go_roundw
                  case rel => exact ⟨k + 2, acc ++ [d], by omega, by omega, by go_num, by simp; omega, hbd3, hr3, hbr.trans hb2⟩
                  case measure => simp [intOf]; omega
            · have hbkb : ((c.toNat : Int) == 92) = false := by simp [hbk]
              have hstep := hr.out
              rw [hdr.out, unqGo_else _ _ _ _ hq hbk] at hstep
              have HS := Lib.hid hstep
              have HQ := Lib.hid hq; have HB := Lib.hid hbk; clear hq hbk hstep
              have hck := hc.out
              go_wp2_with fail
              refine (isfldbyte_any c _).mono ?_; rintro e w2 ⟨rfl, rfl⟩
              cases hf : isFld c
              · have hno := hnone (by have := HS.out; rw [hf] at this; exact this.symm)
                have HF := Lib.hid hf; clear hf hnone
                go_wp2_with fail
                go_ret3
                exact ⟨by rw [hno.out]; rfl, hbr⟩
              · have hr3 : Hid (unqGo ((L s).drop (k + 1)) (acc ++ [c]) (k + 1) = R) := by have := HS.out; rw [hf] at this; exact this
                have HF := Lib.hid hf; clear hf
                go_wp2_with fail
                refine (Tryz.Builder_WriteByte _ _ _ _ _ hbd.out (by rw [Lib.byteCells_length]; omega) hbr.size).mono ?_; rintro e w2 ⟨rfl, hbd2, hb2⟩
                have hbd3 : Hid (Lib.IsBuilder 64 5 w.heap.size w.heap.size (Lib.byteCells (acc ++ [c])) w2) := by rw [byteCells_snoc]; exact Or.inr hbd2
                clear hbd2
                go_wp2_with fail
                go_roundw
                case rel => exact ⟨k + 1, acc ++ [c], by omega, by omega, by go_num, by simp; omega, hbd3, hr3, hbr.trans hb2⟩
                case measure => simp [intOf]; omega
        · have hno := hnone (by rw [← hr.out, List.drop_of_length_le (by rw [L_length]; omega)]; rfl)
          clear hnone
          go_wp2_with fail
          go_ret3
          exact ⟨by rw [hno.out]; rfl, hbr⟩
    · have hno := hnone (by rw [← hR.out, hl]; simp only [unq]; rw [if_neg (by omega)])
      have hqb : ((c.toNat : Int) != 34) = true := by simp [hq]
      have HQ := Lib.hid hq; clear hq
      clear hnone hR hl hl1
      go_enter Tryz.func33, Tryz.ntmps33
      go_wp2_with fail
      go_ret3
      exact ⟨by rw [hno.out]; rfl, Below.refl _ _⟩
end Go.Proofs.YtnodboggemggmaaGreatDoor
