/- Contract of the document's near: the year around now's. -/
import Derived.Test.YtmfnofpphnlbnaaDoorStampR
import Derived.Test.YtmfnofpphnlbnaaDoorStmD
namespace Go.Proofs.YtmfnofpphnlbnaaDoor
open Go Go.RowKit
set_option maxHeartbeats 2000000

theorem t100 (n : Int) : (n.tmod 100 + 100) % 100 = n % 100 ∧ -100 < n.tmod 100 ∧ n.tmod 100 < 100 := by
  have h := Int.tmod_def n 100
  have k : n.tdiv 100 = if 0 ≤ n then n / 100 else -((-n) / 100) := by
    split
    · exact Int.tdiv_eq_ediv_of_nonneg (by omega)
    · have := Int.neg_tdiv (a := -n) (b := 100)
      rw [Int.neg_neg] at this
      rw [this, Int.tdiv_eq_ediv_of_nonneg (by omega)]
  split at k <;> omega
def nowY (now : Int) : Int := Cal.yOf (splitN now)

set_option maxRecDepth 100000 in
theorem rnear_any (c now : Int) (w : World) (hn : isMom now = true) (c0 : 0 ≤ c) (c1 : c ≤ 99) :
    Calls Tryd.prog 50 #[.int .i64 c, .int .i64 now] w fun e w' => e = .returned (.int .i64 (Stm.nearY c (nowY now - 49))) ∧ Below w.heap.size w w' := by
  obtain ⟨y, mo, d, h, mi, s, wd, HD, HW, HE, ⟨y0, y1⟩, -, -, -, -, -, -⟩ := date_of hn
  have hyn : nowY now = y := by
    have := HD.out
    unfold splitD dateV at this
    rw [if_pos hn] at this
    simp at this
    exact this.1
  rw [hyn]
  have hnb := Stm.nearY_bd c (y - 49)
  obtain ⟨T, hT⟩ := name_it (Stm.nearY c (y - 49))
  rw [hT.out] at hnb ⊢
  obtain ⟨t1, t2, t3⟩ := hnb
  have HT := Lib.hid t3
  clear t3 hyn hT
  have hc : c % 100 = c := by omega
  rw [hc] at HT
  clear hc
  go_enter Tryd.func50, Tryd.ntmps50
  go_wp2_with fail
  refine (rsplit_any _ _).mono ?_; rintro e w1 ⟨rfl, hb1⟩
  rw [HD.out, HE.out]
  unfold dateV
  have A0 := Lib.hid (CellsAt.first w1 [.int .i64 y, .int .i64 mo, .int .i64 d, .int .i64 h, .int .i64 mi, .int .i64 s, .int .i64 wd] 35)
  have B0 := hb1.alloc hb1.size (.cells #[.int .i64 y, .int .i64 mo, .int .i64 d, .int .i64 h, .int .i64 mi, .int .i64 s, .int .i64 wd] 35)
  go_wp2_with fail
  all_goals (try (exfalso; omega))
  generalize w1.alloc _ = w2 at A0 B0 ⊢
  have e0 := A0.out.cell 0 (by simp)
  simp only [List.getElem_cons_zero] at e0
  go_loop [7] (fun i => ∃ z : Int, y - 49 ≤ z ∧ z ≤ T ∧ i = .int .i64 z) (fun i => (20000 - intOf i).toNat)
  case atStart => exact ⟨y - 49, by omega, by omega, rfl⟩
  case round =>
    obtain ⟨z, z1, z2, rfl⟩ := hrel
    obtain ⟨u1, u2, u3⟩ := t100 z
    have hmod : Hid ((z.tmod 100 + 100) % 100 = z % 100) := u1
    clear u1
    by_cases hz : z = T
    · subst hz
      have hq : ((z.tmod 100 + 100) % 100 == c) = true := by rw [hmod.out, HT.out]; simp
      go_wp2_with fail
      all_goals (try (exfalso; omega))
      go_ret
      exact ⟨rfl, B0⟩
    · have hq : ((z.tmod 100 + 100) % 100 == c) = false := by
        rw [hmod.out]; simp only [beq_eq_false_iff_ne, ne_eq]
        intro e; have := HT.out; omega
      go_wp2_with fail
      all_goals (try (exfalso; omega))
      go_round
      case rel => exact ⟨z + 1, by omega, by omega, rfl⟩
      case measure => simp [intOf]; omega
end Go.Proofs.YtmfnofpphnlbnaaDoor
