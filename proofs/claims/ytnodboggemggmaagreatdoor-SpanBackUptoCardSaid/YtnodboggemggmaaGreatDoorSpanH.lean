/- Contract of the law's plain answers. -/
import Derived.Test.YtnodboggemggmaaGreatDoorSpanE
import Derived.Test.YtnodboggemggmaaGreatDoorSpanG
namespace Go.Proofs.YtnodboggemggmaaGreatDoor
open Go Go.RowKit
set_option maxHeartbeats 2000000

set_option maxRecDepth 100000 in
theorem awake_any (w : World) (hE : Env w) :
    Calls Tryz.prog 6 #[] w fun e w' => e = .returned (.bool true) ∧ Below w.heap.size w w' := by
  have hp1 : parseE (L ⟨#[98, 121, 116, 101, 115, 61, 48, 45, 52]⟩) 10 = 0 := by decide +kernel
  have hp2 : parseL (L ⟨#[98, 121, 116, 101, 115, 61, 48, 45, 52]⟩) 10 = [(0, 5)] := by decide +kernel
  have HE := Lib.hid hE
  have hP1 := Lib.hid hp1
  have hP2 := Lib.hid hp2
  clear hp1 hp2
  go_enter Tryz.func6, Tryz.ntmps6
  go_wp2_with fail
  refine (parse_any ⟨#[98, 121, 116, 101, 115, 61, 48, 45, 52]⟩ 10 _ HE.out (by decide) (by decide)).mono ?_
  intro e w1 hres
  rw [hP1.out, hP2.out] at hres
  obtain ⟨v, rfl, hrow, hb1⟩ := hres
  obtain ⟨xa, xc, rfl, hc⟩ := spanSl_of_row hrow
  obtain ⟨g, off, rfl, hg, h0, h1⟩ := hc 0 (by decide)
  clear hc hrow
  simp only [List.getElem_cons_zero, Nat.zero_mul, Nat.add_zero] at h0 h1
  go_wp2_with fail
  refine (cutS_any ⟨#[104, 101, 108, 108, 111]⟩ 1 3 _ (by decide)).mono ?_
  rintro e w2 ⟨rfl, hb2⟩
  have hx : (if isO 1 3 (ByteArray.size ⟨#[104, 101, 108, 108, 111]⟩) = true then (ByteArray.mk #[104, 101, 108, 108, 111]).extract (Int.toNat 1) (Int.toNat 3) else ⟨#[]⟩) = ⟨#[101, 108]⟩ := by decide +kernel
  have hy : (if isO 1 3 (ByteArray.size ⟨#[104, 101, 108, 108, 111]⟩) = true then (0 : Int) else 91) = 0 := by decide +kernel
  rw [hx, hy]
  have hb12 := hb1.trans (hb2.mono hb1.size)
  rw [← hb2.cell (p := ⟨g, _, none⟩) hg] at h0 h1
  go_wp2_with fail
  all_goals (try (exfalso; omega))
  go_ret
  exact ⟨rfl, hb12⟩
end Go.Proofs.YtnodboggemggmaaGreatDoor
