/- Contract of the document's Write: a moment in a form. Contract of the document's Write: the walk. -/
import Derived.Test.YtjalfddedikibaaGreatDoorStampWJ
namespace Go.Proofs.YtjalfddedikibaaGreatDoor
open Go Go.RowKit
set_option maxHeartbeats 1000000

/-- a date in a form -/
def writeL (form : Nat) (y mo d h mi s wd : Int) : List UInt8 :=
  Stm.txt form wd.toNat (mo - 1).toNat (if form = 2 ∧ d < 10 then [32, UInt8.ofNat (48 + d.toNat)] else Stm.d2 d) (if form = 1 then y % 100 else y) h mi s
def writeOf (m : Int) (form : Nat) : List UInt8 :=
  writeL form (Cal.yOf (splitN m)) (Cal.mOf (splitN m)) (Cal.dOf (splitN m)) (splitR m / 3600) (splitR m / 60 % 60) (splitR m % 60) (splitN m % 7)
def okForm (form : Int) : Bool := decide (0 ≤ form ∧ form ≤ 2)
def writeV (m form : Int) : Value :=
  .tuple #[.string (bs (if isMom m then if okForm form then writeOf m form.toNat else [] else [])), .int .i64 (if isMom m then if okForm form then 0 else 44 else 40)]

/-- the fields of a moment's date -/
theorem date_of {m : Int} (hm : isMom m = true) : ∃ y mo d h mi s wd : Int, Hid (splitD m = dateV y mo d h mi s wd) ∧ Hid (∀ form, writeOf m form = writeL form y mo d h mi s wd) ∧ Hid (splitE m = 0) ∧
    (1 ≤ y ∧ y ≤ 9999) ∧ (1 ≤ mo ∧ mo ≤ 12) ∧ (1 ≤ d ∧ d ≤ 31) ∧ (0 ≤ h ∧ h ≤ 23) ∧ (0 ≤ mi ∧ mi ≤ 59) ∧ (0 ≤ s ∧ s ≤ 59) ∧ (0 ≤ wd ∧ wd ≤ 6) := by
  have hd : -62135596800 ≤ m ∧ m ≤ 253402300799 := by unfold isMom at hm; exact of_decide_eq_true hm
  have n0 : 0 ≤ splitN m := by unfold splitN; omega
  have n1 : splitN m < 3652059 := by unfold splitN; omega
  have r0 : 0 ≤ splitR m := by unfold splitR; omega
  have r1 : splitR m < 86400 := by unfold splitR; omega
  have hy := Cal.yOf_ok n0 n1
  obtain ⟨d1, d2, d3, d4, d5⟩ := Cal.isDate_of n0 n1
  have hmd := Cal.mdays_lo (Cal.yOf (splitN m)) (Cal.mOf (splitN m))
  refine ⟨_, _, _, _, _, _, _, ?_, fun form => rfl, ?_, ⟨hy.1, hy.2.1⟩, ⟨d1, d2⟩, ⟨d3, by omega⟩, by omega, by omega, by omega, by omega⟩
  · unfold Hid splitD; rw [if_pos hm]
  · unfold Hid splitE; rw [if_pos hm]

/-- what a sign of a pattern stands for -/
def wrc (y mo d h mi s wd : Int) (c : UInt8) : List UInt8 :=
  if c = 119 then Stm.shortN.getD wd.toNat [] else if c = 108 then Stm.longN.getD wd.toNat [] else if c = 109 then Stm.monN.getD (mo - 1).toNat []
  else if c = 100 then digW d 2 else if c = 101 then (if d < 10 then 32 :: digW d 1 else digW d 2) else if c = 121 then digW y 4 else if c = 99 then digW y 2
  else if c = 104 then digW h 2 else if c = 105 then digW mi 2 else if c = 115 then digW s 2 else [c]
theorem pat_write (form : Nat) (hf : form < 3) (y mo d h mi s wd : Int) (y0 : 1 ≤ y) (y1 : y ≤ 9999) (d0 : 1 ≤ d) (d1 : d ≤ 31) (h0 : 0 ≤ h) (h1 : h ≤ 23) (m0 : 0 ≤ mi) (m1 : mi ≤ 59) (s0 : 0 ≤ s) (s1 : s ≤ 59) :
    (patL form).flatMap (wrc y mo d h mi s wd) = writeL form y mo d h mi s wd := by
  have e1 : digW d 2 = Stm.d2 d := by rw [digW_2 d (by omega), show d % 100 = d by omega]
  have e2 : digW h 2 = Stm.d2 h := by rw [digW_2 h (by omega), show h % 100 = h by omega]
  have e3 : digW mi 2 = Stm.d2 mi := by rw [digW_2 mi (by omega), show mi % 100 = mi by omega]
  have e4 : digW s 2 = Stm.d2 s := by rw [digW_2 s (by omega), show s % 100 = s by omega]
  have e5 : digW y 4 = Stm.d4 y := digW_4 y (by omega) y1
  have e6 : digW y 2 = Stm.d2 (y % 100) := digW_2 y (by omega)
  have : form = 0 ∨ form = 1 ∨ form = 2 := by omega
  rcases this with rfl | rfl | rfl
  · simp [patL, wrc, writeL, Stm.txt, Stm.clk, e1, e2, e3, e4, e5]
  · simp [patL, wrc, writeL, Stm.txt, Stm.clk, e1, e2, e3, e4, e6]
  · by_cases hd : d < 10
    · have e7 : digW d 1 = [UInt8.ofNat (48 + d.toNat)] := digW_1 d (by omega) (by omega)
      simp [patL, wrc, writeL, Stm.txt, Stm.clk, e2, e3, e4, e5, e7, hd]
    · simp [patL, wrc, writeL, Stm.txt, Stm.clk, e1, e2, e3, e4, e5, hd]

theorem name_len (l : List (List UInt8)) (hl : ∀ x ∈ l, x.length ≤ 9) (n : Nat) : (l.getD n []).length ≤ 9 := by
  rw [List.getD_eq_getElem?_getD]
  cases h : l[n]? with
  | none => simp
  | some x => exact hl x (List.mem_of_getElem? h)
theorem long_len (n : Nat) : (Stm.longN.getD n []).length ≤ 9 := name_len _ (by decide) n
theorem short_len (n : Nat) : (Stm.shortN.getD n []).length ≤ 9 := name_len _ (by decide) n
theorem mon_len (n : Nat) : (Stm.monN.getD n []).length ≤ 9 := name_len _ (by decide) n
theorem wrc_len (y mo d h mi s wd : Int) (c : UInt8) : (wrc y mo d h mi s wd c).length ≤ 9 := by
  unfold wrc
  have a := long_len wd.toNat
  have b := short_len wd.toNat
  have e := mon_len (mo - 1).toNat
  repeat' split
  all_goals simp_all [digW_len]
theorem extract_one (p : ByteArray) (k : Nat) (h : k < p.size) : p.extract k (k + 1) = bs [p[k]] := by
  rw [extract_bs, L_take h]
  congr 1
  rw [List.drop_append_of_le_length (by rw [List.length_take, L_length]; omega), List.drop_of_length_le (by rw [List.length_take, L_length]; omega)]
  rfl
end Go.Proofs.YtjalfddedikibaaGreatDoor
namespace Go.Proofs.YtjalfddedikibaaGreatDoor
open Go Go.RowKit
set_option maxHeartbeats 2000000

theorem take_flat (f : UInt8 → List UInt8) (p : ByteArray) (k : Nat) (h : k < p.size) : ((L p).take (k + 1)).flatMap f = ((L p).take k).flatMap f ++ f p[k] := by
  rw [L_take h]; simp
theorem flat_len (f : UInt8 → List UInt8) (hf : ∀ c, (f c).length ≤ 9) (l : List UInt8) : (l.flatMap f).length ≤ 9 * l.length := by
  induction l with
  | nil => simp
  | cons c l ih => rw [List.flatMap_cons, List.length_append, List.length_cons]; have := hf c; omega

theorem pick_cases (c : UInt8) : c = 119 ∨ c = 108 ∨ c = 109 ∨ c = 100 ∨ c = 101 ∨ c = 121 ∨ c = 99 ∨ c = 104 ∨ c = 105 ∨ c = 115 ∨ (c ≠ 119 ∧ c ≠ 108 ∧ c ≠ 109 ∧ c ≠ 100 ∧ c ≠ 101 ∧ c ≠ 121 ∧ c ≠ 99 ∧ c ≠ 104 ∧ c ≠ 105 ∧ c ≠ 115) := by
  exact if h0 : c = 119 then Or.inl h0 else Or.inr (if h1 : c = 108 then Or.inl h1 else Or.inr (if h2 : c = 109 then Or.inl h2 else Or.inr (if h3 : c = 100 then Or.inl h3 else Or.inr (if h4 : c = 101 then Or.inl h4 else Or.inr (if h5 : c = 121 then Or.inl h5 else Or.inr (if h6 : c = 99 then Or.inl h6 else Or.inr (if h7 : c = 104 then Or.inl h7 else Or.inr (if h8 : c = 105 then Or.inl h8 else Or.inr (if h9 : c = 115 then Or.inl h9 else Or.inr (⟨h0, h1, h2, h3, h4, h5, h6, h7, h8, h9⟩))))))))))
theorem byte_ne {c : UInt8} {n : Nat} {hn : n < 256} (h : c ≠ UInt8.ofNatLT n hn) : ((c.toNat : Int) == (n : Int)) = false := by
  rw [beq_eq_false_iff_ne]
  intro e
  apply h
  apply UInt8.toNat_inj.1
  have : c.toNat = n := by exact_mod_cast e
  rw [this]; rfl

end Go.Proofs.YtjalfddedikibaaGreatDoor
