/- Ledger's awake: a book takes an entry, and tells its line. -/
import Derived.Test.YtfgaiopkclogmaaDoorLedgBd
namespace Go.Proofs.YtfgaiopkclogmaaDoor
open Go Go.RowKit Go.MuLone
set_option maxHeartbeats 4000000

def e0 : En := ⟨[97], [71, 69, 84], [47, 120, 63, 121], 3, 1, 7, 200, 5⟩
theorem itoa_one (n : Nat) (h : n < 10) : Lib.itoa (n : Nat) = [digC n] := by
  rw [itoa_nat, decDigits_step, if_pos (by omega)]; rfl
theorem line0 : printL e0 = [97, 32, 99, 111, 110, 110, 61, 51, 32, 110, 117, 109, 98, 101, 114, 61, 49, 32, 116, 105, 99, 107, 61, 55, 32, 71, 69, 84, 32, 34, 47, 120, 63, 121, 34, 32, 50, 48, 48, 32, 53] := by
  unfold printL e0
  have h3 : Lib.itoa 3 = [51] := itoa_one 3 (by decide)
  have h1 : Lib.itoa 1 = [49] := itoa_one 1 (by decide)
  have h7 : Lib.itoa 7 = [55] := itoa_one 7 (by decide)
  have h5 : Lib.itoa 5 = [53] := itoa_one 5 (by decide)
  have h200 : Lib.itoa 200 = [50, 48, 48] := by
    have := itoa_nat 200
    rw [show Lib.itoa 200 = Lib.decDigits 200 from this, decDigits_step, if_neg (by decide), decDigits_step, if_neg (by decide), decDigits_step, if_pos (by decide)]; rfl
  simp only []
  rw [h3, h1, h7, h5, h200]
  rfl
theorem ok0 : okE e0 := ⟨by decide +kernel, by unfold intsE e0; decide⟩

set_option maxRecDepth 100000 in
theorem awake_any (w : World) (hE : EnvL w) : Calls Tryd.prog 9 #[] w fun e w' => e = .returned (.bool true) ∧ Below w.heap.size w w' := by
  have HE := Lib.hid hE
  have h5 : 5 ≤ w.heap.size := hE.env.n
  have NB := Lib.hid (newBook_any w h5)
  clear hE h5
  have ADD : Hid (∀ (v : Value) (wx : World), EnvT wx → Bok wx w.heap.size v [] → Calls Tryd.prog 20 #[.pointer (some ⟨w.heap.size, 0, none⟩), .string ⟨#[97]⟩, .agg #[.int .i64 3, .int .i64 1, .string ⟨#[71, 69, 84]⟩, .string ⟨#[47, 120, 63, 121]⟩, .int .i64 200, .int .i64 5, .int .i64 7]] wx fun x w' => x = .returned (.int .i64 0) ∧ Added wx w.heap.size v [] e0 w') :=
    fun v wx h1 h2 => add_yes w.heap.size v [] e0 wx h1 h2 ok0.right (by decide) (by decide) (by decide) (by decide)
  go_enter Tryd.func9, Tryd.ntmps9
  go_wp2_with fail
  refine NB.out.mono ?_; rintro x w1 ⟨rfl, hbok, b1⟩
  have BK1 := Lib.hid hbok
  have B1 := Lib.hid b1
  have E1 := Lib.hid (HE.out.next b1)
  clear hbok b1 NB HE
  go_wp2_with fail
  refine (ADD.out _ _ E1.out.env BK1.out).mono ?_; rintro x w2 ⟨rfl, hadd⟩
  obtain ⟨v2, hbk, _, hk⟩ := hadd
  have BK2 := Lib.hid hbk
  have b2 : Below w.heap.size w1 w2 := hk.below (fun i hi h => by rcases h with h | h; omega; cases h) B1.out.size
  have B2 := Lib.hid (B1.out.trans b2)
  have E2 := Lib.hid (⟨⟨Nat.le_trans E1.out.env.n (Nat.le_trans (by exact Nat.le_refl _) hk.size), fun j hj => by rw [b2.cell (p := ⟨0, j, none⟩) (by have := BK1.out.low; show 0 < w.heap.size; omega)]; exact E1.out.env.sg j hj⟩, var?_below b2 gPowL (by have := BK1.out.low; show 2 < w.heap.size; omega) E1.out.pow⟩ : EnvL w2)
  clear hbk hk b2 BK1 B1 E1 ADD
  have LN := Lib.hid (lines_any w.heap.size v2 ([] ++ [e0]) w2 E2.out BK2.out (fun e he => by
    rw [List.nil_append, List.mem_singleton] at he
    rw [he]; exact ok0))
  go_wp2_with fail
  refine LN.out.mono ?_; rintro x w3 ⟨⟨v3, rfl, hown⟩, b3⟩
  have hown2 : w3.ownsRow w2.heap.size 9 1 v3 1 [.string (bs (printL e0))] := hown
  rw [line0] at hown2
  have ROW := Lib.hid hown2
  have LEN := Lib.hid (len_any w.heap.size v2 ([] ++ [e0]) w3 (BK2.out.next b3))
  have B3 := Lib.hid (B2.out.trans (b3.mono B2.out.size))
  clear hown hown2 b3 LN
  obtain ⟨g, cap, hv3⟩ : ∃ g cap, v3 = .slice (some ⟨g, 0, none⟩) 1 cap := by
    rcases ROW.out.2 with ⟨_, h0⟩ | ⟨g, cap, cur, h, _⟩
    · omega
    · exact ⟨g, cap, h⟩
  subst hv3
  have c0 : w3.cell? ⟨g, 0, none⟩ = some (.string ⟨#[97, 32, 99, 111, 110, 110, 61, 51, 32, 110, 117, 109, 98, 101, 114, 61, 49, 32, 116, 105, 99, 107, 61, 55, 32, 71, 69, 84, 32, 34, 47, 120, 63, 121, 34, 32, 50, 48, 48, 32, 53]⟩) := ROW.out.cellAt 0 (by omega)
  go_wp2_with fail
  refine LEN.out.mono ?_; rintro x w4 ⟨rfl, rfl⟩
  go_wp2_with fail
  go_ret
  exact ⟨rfl, B3.out⟩
end Go.Proofs.YtfgaiopkclogmaaDoor
