/- Contracts of tag's Print, of the document's Print, Strong, Alike, of the law's way from one tag to the other. -/
import Derived.Test.YtjalfddedikibaaGreatDoorTagGJ
import Derived.Test.YtjalfddedikibaaGreatDoorTagBJ
import Derived.Test.YtjalfddedikibaaGreatDoorTagEJ
namespace Go.Proofs.YtjalfddedikibaaGreatDoor
open Go Go.RowKit Go.Sort
set_option maxHeartbeats 4000000

/-- may it be a tag, and its text -/
def goodT (t : Tg) : Bool := t.2.all inT && decide (t.2.length ≤ 256)
def printL (t : Tg) : List UInt8 := (if t.1 = true then [87, 47] else []) ++ ([34] ++ t.2 ++ [34])
def prV (t : Tg) : Value := if goodT t = true then .tuple #[.string (bs (printL t)), .int .i64 0] else .tuple #[.string ⟨#[]⟩, .int .i64 80]
theorem bs_add (a b : List UInt8) : bs a ++ bs b = bs (a ++ b) := by
  apply L_inj.1; unfold L; rw [ByteArray.data_append]; simp [bs]
theorem prV_no {t : Tg} (h : goodT t = false) : prV t = .tuple #[.string ⟨#[]⟩, .int .i64 80] := by unfold prV; rw [h]; rfl
theorem prV_yes {t : Tg} (h : goodT t = true) : prV t = .tuple #[.string (bs (printL t)), .int .i64 0] := by unfold prV; rw [if_pos h]

set_option maxRecDepth 100000 in
theorem tprint_any (b : Bool) (X : ByteArray) (w : World) (hs : X.size ≤ 1073741824) :
    Calls Tryz.prog 17 #[.agg #[.bool b, .string X]] w fun e w' => e = .returned (prV (b, L X)) ∧ Below w.heap.size w w' := by
  have s1 : (0 : Int) ≤ 1 := by omega
  have HG : Hid (goodT (b, L X) = ((L X).all inT && decide ((L X).length ≤ 256))) := rfl
  have hlen := L_length X
  rw [hlen] at HG
  have HY : Hid (goodT (b, L X) = true → prV (b, L X) = .tuple #[.string (bs (printL (b, L X))), .int .i64 0]) := prV_yes
  have HN : Hid (goodT (b, L X) = false → prV (b, L X) = .tuple #[.string ⟨#[]⟩, .int .i64 80]) := prV_no
  have hb := (Below.refl w.heap.size w).alloc (Nat.le_refl _) (.cells #[.bool b, .string X] tT)
  have HP : Hid (bs (printL (b, L X)) = (if b = true then ⟨#[87, 47]⟩ ++ ((⟨#[34]⟩ : ByteArray) ++ X ++ ⟨#[34]⟩) else (⟨#[34]⟩ : ByteArray) ++ X ++ ⟨#[34]⟩)) := by
    unfold Hid printL
    have e : (⟨#[34]⟩ : ByteArray) ++ X ++ ⟨#[34]⟩ = bs ([34] ++ L X ++ [34]) := by rw [← bs_add, ← bs_add, bs_L]; rfl
    rw [e]
    cases b
    · rfl
    · exact (bs_add [87, 47] _).symm
  have HB := Lib.hid hb
  obtain ⟨S, hS⟩ := name_it (bs (printL (b, L X)))
  rw [hS.out] at HY HP
  obtain ⟨R, hR⟩ := name_it (prV (b, L X))
  rw [hR.out] at HY HN ⊢
  clear hb hS hR hlen
  obtain ⟨G, hG⟩ := name_it (goodT (b, L X))
  rw [hG.out] at HY HN HG
  clear hG
  go_enter Tryz.func17, Tryz.ntmps17
  by_cases hbig : (X.size : Int) ≤ 256
  · have d0 : decide (X.size ≤ 256) = true := decide_eq_true (by omega)
    rw [d0, Bool.and_true] at HG
    have hr : Hid ((L X).all inT = G) := HG.out.symm
    clear HG d0
    go_wp2_with fail
    go_loop [4, 13] (fun _ i => ∃ k : Nat, k ≤ X.size ∧ i = .int .i64 k ∧ Hid (((L X).drop k).all inT = G)) (fun _ i => X.size - (intOf i).toNat)
    case atStart => exact ⟨0, Nat.zero_le _, rfl, hr⟩
    clear hr
    case round =>
      obtain ⟨k, hk, rfl, hr⟩ := hrel
      by_cases hlt : k < X.size
      · cases hb : inT X[k]
        all_goals
          have hr2 := hr.out
          rw [L_drop hlt, List.all_cons, hb] at hr2
          have HR := Lib.hid hr2; clear hr2 hr
          go_wp2_with (go_at_call 40; refine (isbyte_any _ _).mono ?_; rintro e w' ⟨rfl, rfl⟩)
        · have h0 := HN.out (HR.out.symm.trans rfl)
          go_ret2
          exact ⟨by rw [h0]; rfl, HB.out⟩
        · go_round
          case rel => exact ⟨k + 1, by omega, by go_num, Lib.hid (by have h := HR.out; simpa using h)⟩
          case measure => simp [intOf] <;> omega
      · obtain rfl : k = X.size := by omega
        rw [L_drop_all] at hr
        have h1 := Lib.hid (HY.out hr.out.symm)
        clear HY HN hr
        have n1 : (X.size : Int) ≤ 4611686018427387904 := by omega
        cases b
        · have HP2 : Hid (S = (⟨#[34]⟩ : ByteArray) ++ X ++ ⟨#[34]⟩) := HP.out
          clear HP
          go_wp2_with fail
          all_goals (try (exfalso; omega))
          go_ret2
          exact ⟨by rw [h1.out, HP2.out]; rfl, HB.out⟩
        · have HP2 : Hid (S = ⟨#[87, 47]⟩ ++ ((⟨#[34]⟩ : ByteArray) ++ X ++ ⟨#[34]⟩)) := HP.out
          clear HP
          go_wp2_with fail
          all_goals (try (exfalso; omega))
          go_ret2
          exact ⟨by rw [h1.out, HP2.out]; rfl, HB.out⟩
  · have d0 : decide (X.size ≤ 256) = false := decide_eq_false (by omega)
    rw [d0, Bool.and_false] at HG
    have h0 := Lib.hid (HN.out HG.out)
    clear HG HN HY HP
    go_wp2_with fail
    all_goals (try (exfalso; omega))
    go_ret2
    exact ⟨by rw [h0.out]; rfl, HB.out⟩

end Go.Proofs.YtjalfddedikibaaGreatDoor
