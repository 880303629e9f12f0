/- TagParses, TagLists: the walks of the laws. -/
import Derived.Test.YtjalfddedikibaaDoorTagWJ
import Derived.Test.YtjalfddedikibaaDoorTagVJ
import Derived.Test.YtjalfddedikibaaDoorTagEJ
namespace Go.Proofs.YtjalfddedikibaaDoor
open Go Go.RowKit Go.Sort
set_option maxHeartbeats 4000000

set_option maxRecDepth 100000 in
theorem lawParses_any (s : ByteArray) (w : World) (hE : EnvS w) (hs : s.size ≤ 1048576) :
    Calls Tryd.prog 3 #[.string s] w fun e w' => e = .returned (.bool true) ∧ Below w.heap.size w w' := by
  have AW := Lib.hid (awake_any w hE)
  have PA := Lib.hid (fun wx => tparse_any s wx (by omega))
  have RP := Lib.hid (fun wx => rtparse_any s wx (by omega))
  obtain ⟨⟨⟨t1, t2⟩, n, er⟩, hr⟩ := name_it (parT (L s))
  have RF := Lib.hid (fun wx => ref_any (t1, t2) wx)
  rw [hr.out] at PA RP
  unfold parV encT at PA RP
  unfold encT at RF
  simp only at PA RP RF
  obtain ⟨X, hX⟩ := name_it (bs t2)
  rw [hX.out] at PA RP RF
  clear hr hX hE hs
  go_enter Tryd.func3, Tryd.ntmps3
  go_wp2_with fail
  refine AW.out.mono ?_; rintro e w1 ⟨rfl, b1⟩
  have B1 := Lib.hid b1
  clear b1 AW
  go_wp2_with fail
  refine (PA.out _).mono ?_; rintro e w2 ⟨rfl, b2⟩
  have B2 := Lib.hid (B1.out.trans (b2.mono B1.out.size))
  clear b2 B1 PA
  go_wp2_with fail
  have A3 : Hid (Blk (w2.alloc (.cells #[.bool t1, .string X] tT)) w2.heap.size tT #[.bool t1, .string X]) := Blk.new w2 tT _
  have B3 : Hid (Below w.heap.size w (w2.alloc (.cells #[.bool t1, .string X] tT))) := B2.out.alloc B2.out.size _
  obtain ⟨m1, hm1⟩ := name_it w2.heap.size
  rw [hm1.out] at A3 ⊢
  obtain ⟨w3, hw3⟩ := name_it (w2.alloc (.cells #[.bool t1, .string X] tT))
  rw [hw3.out] at A3 B3 ⊢
  clear hm1 hw3 B2
  refine (RP.out _).mono ?_; rintro e w4 ⟨rfl, b4⟩
  have A4 := Lib.hid (A3.out.below b4 A3.out.lt)
  have B4 := Lib.hid (B3.out.trans (b4.mono B3.out.size))
  clear b4 B3 A3 RP
  go_wp2_with fail
  have A5 := Lib.hid (A4.out.alloc (.cells #[.bool t1, .string X] tRT))
  have C5 : Hid (Blk (w4.alloc (.cells #[.bool t1, .string X] tRT)) w4.heap.size tRT #[.bool t1, .string X]) := Blk.new w4 tRT _
  have B5 : Hid (Below w.heap.size w (w4.alloc (.cells #[.bool t1, .string X] tRT))) := B4.out.alloc B4.out.size _
  obtain ⟨m2, hm2⟩ := name_it w4.heap.size
  rw [hm2.out] at C5 ⊢
  obtain ⟨w5, hw5⟩ := name_it (w4.alloc (.cells #[.bool t1, .string X] tRT))
  rw [hw5.out] at A5 B5 C5 ⊢
  clear hm2 hw5 B4 A4
  have mixed : Tryd.prog.follows .mixedOrders = true := by kernel_rfl
  have h1 := A5.out.lt
  have h2 := C5.out.lt
  have x1 : ∀ k os, (Sort.grow (w5.drewN k) os).cell? ⟨m1, 0, none⟩ = some (.bool t1) := cell_grown (a := ⟨m1, 0, none⟩) h1 (A5.out.cell 0)
  have x2 : ∀ k os, (Sort.grow (w5.drewN k) os).cell? ⟨m1, 1, none⟩ = some (.string X) := cell_grown (a := ⟨m1, 1, none⟩) h1 (A5.out.cell 1)
  have y1 : ∀ k os, (Sort.grow (w5.drewN k) os).cell? ⟨m2, 0, none⟩ = some (.bool t1) := cell_grown (a := ⟨m2, 0, none⟩) h2 (C5.out.cell 0)
  have y2 : ∀ k os, (Sort.grow (w5.drewN k) os).cell? ⟨m2, 1, none⟩ = some (.string X) := cell_grown (a := ⟨m2, 1, none⟩) h2 (C5.out.cell 1)
  refine wp_region_quiet_grown (by assumption) (by kernel_rfl) ?_
  repeat (go_big_quiet_step ((go_at_call 11; exact (RF.out _).grown_of)))
  refine wpQuiet_nil ?_
  intro _ hw'
  obtain ⟨⟨nq, osq⟩, hw''⟩ := hw'
  subst hw''
  have B6 := Lib.hid (B5.out.trans ((below_grow (w := w5) nq osq).mono B5.out.size))
  obtain ⟨wE, hwE⟩ := name_it (Sort.grow (w5.drewN nq) osq)
  rw [hwE.out] at B6
  dsimp only
  rw [hwE.out]
  clear x1 x2 y1 y2 hwE
  go_wp2_with fail
  go_ret
  exact ⟨rfl, B6.out⟩

set_option maxRecDepth 100000 in
theorem lawLists_any (s : ByteArray) (w : World) (hE : EnvS w) (hs : s.size ≤ 1048576) :
    Calls Tryd.prog 4 #[.string s] w fun e w' => e = .returned (.bool true) ∧ Below w.heap.size w w' := by
  have AW := Lib.hid (awake_any w hE)
  have LS := Lib.hid (fun wx => list_any s wx (by omega))
  have RL := Lib.hid (fun wx => rlist_any s wx hs)
  have hll := listT_len (L s)
  rw [L_length] at hll
  obtain ⟨⟨ts, star, at_, er⟩, hr⟩ := name_it (listT (L s))
  rw [hr.out] at LS RL hll
  simp only at hll
  unfold ListRes at LS RL
  simp only at LS RL
  have hts : ts.length ≤ 1073741824 := by omega
  clear hr hE hs hll
  go_enter Tryd.func4, Tryd.ntmps4
  go_wp2_with fail
  refine AW.out.mono ?_; rintro e w1 ⟨rfl, b1⟩
  have B1 := Lib.hid b1
  clear b1 AW
  go_wp2_with fail
  refine (LS.out _).mono ?_; rintro e w2 ⟨⟨v1, rfl, o1⟩, b2⟩
  have O1 := Lib.hid o1
  have B2 := Lib.hid (B1.out.trans (b2.mono B1.out.size))
  clear b2 B1 LS o1
  go_wp2_with fail
  refine (RL.out _).mono ?_; rintro e w3 ⟨⟨v2, rfl, o2⟩, b3⟩
  have SA := Lib.hid (sameTg_any _ _ v1 v2 ts w3 (row_next O1.out b3) o2 hts)
  have B3 := Lib.hid (B2.out.trans (b3.mono B2.out.size))
  clear b3 B2 RL o2 O1
  go_wp2_with fail
  refine SA.out.mono ?_; rintro e w4 ⟨rfl, b4⟩
  have B4 := Lib.hid (B3.out.trans (b4.mono B3.out.size))
  clear b4 B3 SA
  go_wp2_with fail
  all_goals go_ret
  all_goals exact ⟨ret_bool (by simp), B4.out⟩
end Go.Proofs.YtjalfddedikibaaDoor
