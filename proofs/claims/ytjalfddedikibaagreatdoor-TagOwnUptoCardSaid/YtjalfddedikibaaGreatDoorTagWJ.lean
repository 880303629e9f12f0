/- The law's awake: a tag is read, and a condition is met. -/
import Derived.Test.YtjalfddedikibaaGreatDoorTagOJ
import Derived.Test.YtjalfddedikibaaGreatDoorTagCJ
namespace Go.Proofs.YtjalfddedikibaaGreatDoor
open Go Go.RowKit
set_option maxHeartbeats 4000000

def awF : List Fd := [([105, 102, 45, 110, 111, 110, 101, 45, 109, 97, 116, 99, 104], [34, 98, 34, 44, 32, 87, 47, 34, 97, 34])]
theorem aw_list : listT [34, 98, 34, 44, 32, 87, 47, 34, 97, 34] = ⟨[(false, [98]), (true, [97])], false, 0, 0⟩ := by
  refine listT_good (by decide) ?_
  have e0 : trim [34, 98, 34, 44, 32, 87, 47, 34, 97, 34] = [34, 98, 34, 44, 32, 87, 47, 34, 97, 34] := by decide
  rw [e0, lsT_read (t := (false, [98])) (n := 3) (by decide) (by decide) (by decide)]
  show lsT false _ _ [44, 32, 87, 47, 34, 97, 34] = _
  rw [lsT_comma, lsT_bl (by decide), lsT_read (t := (true, [97])) (n := 5) (by decide) (by decide) (by decide)]
  show lsT false _ _ [] = _
  rw [lsT_nil]; rfl
theorem aw_decide : decideT true ⟨true, (true, [97]), true, 0, false⟩ 0 awF = 304 := by
  have e1 : valuesF awF nmIM = [] := by decide
  have e2 : valuesF awF nmIN = [[34, 98, 34, 44, 32, 87, 47, 34, 97, 34]] := by decide
  have e3 : valuesF awF nmIU = [] := by decide
  rw [decide_eq]
  unfold decideR
  rw [e1, e3, e2]
  unfold laterR metT
  have e4 : Lib.join [[34, 98, 34, 44, 32, 87, 47, 34, 97, 34]] [44, 32] = [34, 98, 34, 44, 32, 87, 47, 34, 97, 34] := by decide
  rw [e4, aw_list]
  rfl
theorem aw_sum : fSum awF ≤ 1048576 := by decide
theorem aw_parse : parV (parT (L ⟨#[87, 47, 34, 97, 34]⟩)) = .tuple #[.agg #[.bool true, .string ⟨#[97]⟩], .int .i64 0, .int .i64 0] := rfl

theorem fd_one (w : World) (a b : Tx) (A B : ByteArray) (hA : A = bs a) (hB : B = bs b) : FdSl (w.alloc (.cells #[.string A, .string B] tF)) (.slice (some ⟨w.heap.size, 0, none⟩) 1 1) [(a, b)] := by
  subst hA hB
  refine ⟨_, _, rfl, fun j hj => ?_⟩
  obtain rfl : j = 0 := by simp only [List.length_singleton] at hj; omega
  have h := Blk.new w tF #[.string (bs a), .string (bs b)]
  exact ⟨_, 0, rfl, h.lt, h.cell 0, h.cell 1⟩
set_option maxRecDepth 100000 in
theorem awake_any (w : World) (hE : EnvS w) :
    Calls Tryz.prog 7 #[] w fun e w' => e = .returned (.bool true) ∧ Below w.heap.size w w' := by
  have PA := Lib.hid (fun wx => tparse_any ⟨#[87, 47, 34, 97, 34]⟩ wx (by decide))
  rw [aw_parse] at PA
  have DA := Lib.hid (fun v wx (h1 : EnvS wx) (h2 : FdSl wx v awF) => decide_any ⟨#[71, 69, 84]⟩ v awF ⟨true, (true, [97]), true, 0, false⟩ 0 wx h1 h2 aw_sum)
  have e0 : readsT (L ⟨#[71, 69, 84]⟩) = true := by decide
  rw [e0, aw_decide] at DA
  unfold encSt at DA
  have e1 : bs [97] = (⟨#[97]⟩ : ByteArray) := rfl
  simp only [e1] at DA
  have HE := Lib.hid hE
  clear hE e0 e1
  go_enter Tryz.func7, Tryz.ntmps7
  go_wp2_with fail
  refine (PA.out _).mono ?_; rintro e w1 ⟨rfl, b1⟩
  have B1 := Lib.hid b1
  have E1 := Lib.hid (HE.out.next b1)
  clear b1 PA HE
  go_wp2_with fail
  have z1 : (w1.alloc (.cells #[.bool true, .string ⟨#[97]⟩] tT)).heap.size = w1.heap.size + 1 := Array.size_push ..
  have B3 : Hid (Below w.heap.size w ((w1.alloc (.cells #[.bool true, .string ⟨#[97]⟩] tT)).alloc (.cells #[.string ⟨#[105, 102, 45, 110, 111, 110, 101, 45, 109, 97, 116, 99, 104]⟩, .string ⟨#[34, 98, 34, 44, 32, 87, 47, 34, 97, 34]⟩] tF))) :=
    (B1.out.alloc B1.out.size _).alloc (by have := B1.out.size; rw [z1]; omega) _
  have F3 := fd_one (w1.alloc (.cells #[.bool true, .string ⟨#[97]⟩] tT)) [105, 102, 45, 110, 111, 110, 101, 45, 109, 97, 116, 99, 104] [34, 98, 34, 44, 32, 87, 47, 34, 97, 34] ⟨#[105, 102, 45, 110, 111, 110, 101, 45, 109, 97, 116, 99, 104]⟩ ⟨#[34, 98, 34, 44, 32, 87, 47, 34, 97, 34]⟩ rfl rfl
  rw [z1] at F3
  have DC := Lib.hid (DA.out _ _ ((E1.out.alloc _).alloc _) F3)
  clear F3 DA z1
  refine DC.out.mono ?_; rintro e w4 ⟨rfl, b4⟩
  have B4 := Lib.hid (B3.out.trans (b4.mono B3.out.size))
  clear b4 DC B3
  go_wp2_with fail
  go_ret
  exact ⟨rfl, B4.out⟩
end Go.Proofs.YtjalfddedikibaaGreatDoor
