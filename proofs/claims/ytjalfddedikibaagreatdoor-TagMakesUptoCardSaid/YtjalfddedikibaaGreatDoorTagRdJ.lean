/- Contracts of the law's ways to the document's fields and state. -/
import Derived.Test.YtjalfddedikibaaGreatDoorTagRaJ
import Derived.Test.YtjalfddedikibaaGreatDoorMd
import Derived.Deep.RegionLaw
namespace Go.Proofs.YtjalfddedikibaaGreatDoor
open Go Go.RowKit Go.Sort
set_option maxHeartbeats 4000000

theorem infoRF : (Tryz.prog.info? tRF).map (fun i => (i.zero, i.size, i.bytes)) = some (some (.agg #[.string ⟨#[]⟩, .string ⟨#[]⟩]), 2, 32) := by kernel_rfl
/-- fields as the document has them -/
theorem fd_of_rrow {w : World} {B : Nat} {v : Value} {l : List Fd} (h : w.ownsRow B tRF 2 v l.length (rowFd l)) : FdSl w v l := by
  rcases h.2 with ⟨hv, h0⟩ | ⟨g, cap, cur, hv, _, hgg, _⟩
  · have : l = [] := List.eq_nil_of_length_eq_zero h0
    subst this
    exact ⟨none, 0, hv, fun j hj => by simp at hj⟩
  · subst hv
    refine ⟨_, cap, rfl, fun j hj => ⟨g, 0, rfl, (Array.getElem?_eq_some_iff.1 hgg).1, ?_, ?_⟩⟩
    · rw [Nat.zero_add]; exact (h.cellAt (j * 2) (by omega)).trans (rowFd_get l j hj).1
    · rw [Nat.zero_add]; exact (h.cellAt (j * 2 + 1) (by omega)).trans (rowFd_get l j hj).2

set_option maxRecDepth 100000 in
theorem plain_any (v : Value) (l : List Fd) (w : World) (hv : FdSl w v l) (hl : l.length ≤ 1048576) :
    Calls Tryz.prog 10 #[v] w fun e w' => (∃ v2, e = .returned v2 ∧ FdSl w' v2 l) ∧ Below w.heap.size w w' := by
  obtain ⟨i0, hi, hz0, hz1, hz2⟩ := info_parts infoRF
  obtain ⟨p, cap, rfl, hc⟩ := hv
  have HC := Lib.hid hc
  have B0 : Hid (Below w.heap.size w w) := Below.refl _ _
  have O0 : Hid (w.ownsRow w.heap.size tRF 2 (.slice none 0 0) 0 (rowFd [])) := World.ownsRow_nil ..
  clear hc
  go_enter Tryz.func10, Tryz.ntmps10
  go_wp2_with fail
  go_loopw [3, 8] (fun out i wr => ∃ k : Nat, k ≤ l.length ∧ i = .int .i64 k ∧ Hid (wr.ownsRow w.heap.size tRF 2 out k (rowFd (l.take k))) ∧ Hid (Below w.heap.size w wr)) (fun _ i _ => l.length - (intOf i).toNat)
  case atStart => exact ⟨0, Nat.zero_le _, rfl, O0, B0⟩
  clear O0 B0
  case round =>
    obtain ⟨k, hk, rfl, hO, hB⟩ := hrel
    obtain ⟨wq, hwq⟩ : ∃ wq, wq = wr := ⟨wr, rfl⟩
    subst hwq
    obtain ⟨so, co, hout⟩ := row_slice hO.out
    subst hout
    by_cases hlt : k < l.length
    · have q0 : (0 : Int) ≤ (k : Int) := by omega
      have q1 : (k : Int) < (l.length : Int) := by omega
      obtain ⟨b, off, rfl, hb, h1, h2⟩ := HC.out k hlt
      have c1 : wq.cell? ⟨b, off + k * 2, none⟩ = _ := (hB.out.cell (p := ⟨b, off + k * 2, none⟩) hb).trans h1
      have c2 : wq.cell? ⟨b, off + k * 2 + 1, none⟩ = _ := (hB.out.cell (p := ⟨b, off + k * 2 + 1, none⟩) hb).trans h2
      have ht : l.take (k + 1) = l.take k ++ [l[k]] := List.take_succ_eq_append_getElem hlt
      obtain ⟨⟨fn, fv⟩, hf⟩ := name_it l[k]
      rw [hf.out] at c1 c2 ht
      simp only at c1 c2 ht
      have hrs := rowFd_snoc (l.take k) (fn, fv)
      rw [← ht] at hrs
      simp only at hrs
      obtain ⟨F, hF⟩ := name_it (bs fn)
      obtain ⟨V, hV⟩ := name_it (bs fv)
      rw [hF.out] at c1 hrs
      rw [hV.out] at c2 hrs
      have HRS := Lib.hid hrs
      clear hb h1 h2 hf ht hF hV hrs
      have B1 : Hid (Below w.heap.size w (wq.alloc (.cells #[.string F, .string V] tF))) := hB.out.alloc hB.out.size _
      have O1 : Hid ((wq.alloc (.cells #[.string F, .string V] tF)).ownsRow w.heap.size tRF 2 (.slice so k co) k (rowFd (l.take k))) := hO.out.alloc _
      go_wp2_with (at_builtin; refine appendC rfl _ _ 34 rfl w.heap.size tRF i0 (.agg #[.string ⟨#[]⟩, .string ⟨#[]⟩]) 2 32 Tryz.underlying34 hi hz0 hz1 hz2 rfl (by decide) O1.out rfl #[.string F, .string V] rfl (by intro u hu; simp only [List.mem_cons, List.not_mem_nil, or_false] at hu; rcases hu with rfl | rfl <;> rfl) rfl (by first | rfl | (simp; done)) ?_ ?_ ?_ ?_)
      · unfold maxLen; omega
      · omega
      · exact B1.out.size
      intro g7 c7 w7 hown7 b7
      have O7 : Hid (w7.ownsRow w.heap.size tRF 2 (.slice (some ⟨g7, 0, none⟩) (k + 1) c7) (k + 1) (rowFd (l.take (k + 1)))) := by
        unfold Hid; rw [HRS.out]; exact hown7
      have B7 := Lib.hid (B1.out.trans b7)
      clear hown7 b7 O1 B1 c1 c2
      go_wp2_with fail
      go_roundw
      case rel => exact ⟨k + 1, by omega, by go_num, O7, B7⟩
      case measure => simp [intOf] <;> omega
    · obtain rfl : k = l.length := by omega
      rw [List.take_length] at hO
      go_wp2_with fail
      all_goals (try (exfalso; omega))
      go_ret
      exact ⟨⟨_, rfl, fd_of_rrow hO.out⟩, hB.out⟩

theorem Blk.other {w : World} {b : Nat} {T : TypeId} {C : Array Value} (h : Blk w b T C) {m : Nat} (hne : b ≠ m) (i : Nat) (v : Value) : Blk (w.setCell ⟨m, i, none⟩ v) b T C := by
  unfold Blk World.setCell
  show (w.heap.modify m _)[b]? = _
  rw [Array.getElem?_modify, if_neg (fun e => hne e.symm)]
  exact h

set_option maxRecDepth 100000 in
theorem state_any (s : Sta) (w : World) : Calls Tryz.prog 11 #[encSt s] w fun e w' => e = .returned (encSt s) ∧ Below w.heap.size w w' := by
  obtain ⟨sth, ⟨g1, g2⟩, stt, stm, std⟩ := s
  unfold encSt
  obtain ⟨Y, hY⟩ := name_it (bs g2)
  have RF := Lib.hid (fun wx => ref_any (g1, g2) wx)
  unfold encT at RF
  simp only at RF ⊢
  rw [hY.out] at RF ⊢
  have RG : Hid (∀ wx, Calls Tryz.prog 15 #[.agg #[.bool g1, .string Y]] wx fun e w' => e = .returned (.agg #[.bool g1, .string Y]) ∧ Below wx.heap.size wx w') := fun wx => (RF.out wx).mono fun e w' ⟨h1, q, os, h2⟩ => ⟨h1, by rw [h2]; exact below_grow q os⟩
  clear hY RF
  have z1 : (w.alloc (.cells #[.bool sth, .bool g1, .string Y, .bool stt, .int .i64 stm, .bool std] 28)).heap.size = w.heap.size + 1 := Array.size_push ..
  have A0 : Hid (Blk ((w.alloc (.cells #[.bool sth, .bool g1, .string Y, .bool stt, .int .i64 stm, .bool std] 28)).alloc (.cells #[.bool false, .bool false, .string ⟨#[]⟩, .bool false, .int .i64 0, .bool false] tRSt)) w.heap.size 28 #[.bool sth, .bool g1, .string Y, .bool stt, .int .i64 stm, .bool std]) := (Blk.new w _ _).alloc _
  have C0 : Hid (Blk ((w.alloc (.cells #[.bool sth, .bool g1, .string Y, .bool stt, .int .i64 stm, .bool std] 28)).alloc (.cells #[.bool false, .bool false, .string ⟨#[]⟩, .bool false, .int .i64 0, .bool false] tRSt)) (w.heap.size + 1) tRSt #[.bool false, .bool false, .string ⟨#[]⟩, .bool false, .int .i64 0, .bool false]) := by
    have h := Blk.new (w.alloc (.cells #[.bool sth, .bool g1, .string Y, .bool stt, .int .i64 stm, .bool std] 28)) tRSt #[.bool false, .bool false, .string ⟨#[]⟩, .bool false, .int .i64 0, .bool false]
    rw [z1] at h; exact h
  have B0 : Hid (Below w.heap.size w ((w.alloc (.cells #[.bool sth, .bool g1, .string Y, .bool stt, .int .i64 stm, .bool std] 28)).alloc (.cells #[.bool false, .bool false, .string ⟨#[]⟩, .bool false, .int .i64 0, .bool false] tRSt))) := bel2 w _ _
  clear z1
  go_enter Tryz.func11, Tryz.ntmps11
  go_wp2_with fail
  obtain ⟨w0, hw0⟩ := name_it ((w.alloc (.cells #[.bool sth, .bool g1, .string Y, .bool stt, .int .i64 stm, .bool std] 28)).alloc (.cells #[.bool false, .bool false, .string ⟨#[]⟩, .bool false, .int .i64 0, .bool false] tRSt))
  rw [hw0.out] at A0 C0 B0 ⊢
  have hne : w.heap.size ≠ w.heap.size + 1 := by omega
  have hge : w.heap.size ≤ w.heap.size + 1 := by omega
  obtain ⟨m2, hm2⟩ := name_it (w.heap.size + 1)
  rw [hm2.out] at C0 hne hge ⊢
  obtain ⟨m1, hm1⟩ := name_it w.heap.size
  rw [hm1.out] at A0 hne ⊢
  have HGE : Hid (w.heap.size ≤ m2) := hge
  clear hw0 hm2 hge
  have hd : Below w0.heap.size w0 w0.drew := (Below.refl _ _).drew
  have A1 := Lib.hid (A0.out.below hd A0.out.lt)
  have C1 := Lib.hid (C0.out.below hd C0.out.lt)
  have B1 := Lib.hid (B0.out.trans (hd.mono B0.out.size))
  have KA : Hid (∀ W, Blk W m1 28 #[.bool sth, .bool g1, .string Y, .bool stt, .int .i64 stm, .bool std] → W.cell? ⟨m1, 0, none⟩ = some (.bool sth) ∧ W.cell? ⟨m1, 1, none⟩ = some (.bool g1) ∧ W.cell? ⟨m1, 2, none⟩ = some (.string Y) ∧ W.cell? ⟨m1, 3, none⟩ = some (.bool stt) ∧ W.cell? ⟨m1, 4, none⟩ = some (.int .i64 stm) ∧ W.cell? ⟨m1, 5, none⟩ = some (.bool std)) := fun W h => ⟨h.cell 0, h.cell 1, h.cell 2, h.cell 3, h.cell 4, h.cell 5⟩
  have KC : Hid (∀ W, Blk W m2 tRSt #[.bool false, .bool false, .string ⟨#[]⟩, .bool false, .int .i64 0, .bool false] → W.cell? ⟨m2, 0, none⟩ = some (.bool false) ∧ W.cell? ⟨m2, 1, none⟩ = some (.bool false) ∧ W.cell? ⟨m2, 2, none⟩ = some (.string ⟨#[]⟩) ∧ W.cell? ⟨m2, 3, none⟩ = some (.bool false) ∧ W.cell? ⟨m2, 4, none⟩ = some (.int .i64 0) ∧ W.cell? ⟨m2, 5, none⟩ = some (.bool false) ∧ W.frozen? ⟨m2, 0, none⟩ = false ∧ W.frozen? ⟨m2, 1, none⟩ = false ∧ W.frozen? ⟨m2, 2, none⟩ = false ∧ W.frozen? ⟨m2, 3, none⟩ = false ∧ W.frozen? ⟨m2, 4, none⟩ = false ∧ W.frozen? ⟨m2, 5, none⟩ = false) := fun W h => ⟨h.cell 0, h.cell 1, h.cell 2, h.cell 3, h.cell 4, h.cell 5, h.frozen 0, h.frozen 1, h.frozen 2, h.frozen 3, h.frozen 4, h.frozen 5⟩
  clear hd A0 C0 B0
  go_region_held3 (fun W => W.cell? ⟨m1, 0, none⟩ = some (.bool sth) ∧ W.cell? ⟨m1, 1, none⟩ = some (.bool g1) ∧ W.cell? ⟨m1, 2, none⟩ = some (.string Y) ∧ W.cell? ⟨m1, 3, none⟩ = some (.bool stt) ∧ W.cell? ⟨m1, 4, none⟩ = some (.int .i64 stm) ∧ W.cell? ⟨m1, 5, none⟩ = some (.bool std))
    (first | with_reducible exact KA.out _ A5.out | with_reducible exact KA.out _ ((((((A5.out.other hne 0 _).other hne 1 _).other hne 2 _).other hne 3 _).other hne 4 _).other hne 5 _) | with_reducible exact KA.out _ A1.out | go_keep)
    ((go_at_call 15; refine (RG.out _).mono ?_; rintro e w5 ⟨rfl, b5⟩; have A5 := Lib.hid (A1.out.below b5 A1.out.lt); have C5 := Lib.hid (C1.out.below b5 C1.out.lt); have B5 := Lib.hid (B1.out.trans (b5.mono B1.out.size)); obtain ⟨y0, y1, y2, y3, y4, y5, f0, f1, f2, f3, f4, f5⟩ := KC.out _ C5.out))
  all_goals
    have F6 : Hid (Blk ((((((w5.setCell ⟨m2, 0, none⟩ (.bool sth)).setCell ⟨m2, 1, none⟩ (.bool g1)).setCell ⟨m2, 2, none⟩ (.string Y)).setCell ⟨m2, 3, none⟩ (.bool stt)).setCell ⟨m2, 4, none⟩ (.int .i64 stm)).setCell ⟨m2, 5, none⟩ (.bool std)) m2 tRSt #[.bool sth, .bool g1, .string Y, .bool stt, .int .i64 stm, .bool std]) := (((((C5.out.set 0 (.bool sth)).set 1 (.bool g1)).set 2 (.string Y)).set 3 (.bool stt)).set 4 (.int .i64 stm)).set 5 (.bool std)
    have B6 : Hid (Below w.heap.size w ((((((w5.setCell ⟨m2, 0, none⟩ (.bool sth)).setCell ⟨m2, 1, none⟩ (.bool g1)).setCell ⟨m2, 2, none⟩ (.string Y)).setCell ⟨m2, 3, none⟩ (.bool stt)).setCell ⟨m2, 4, none⟩ (.int .i64 stm)).setCell ⟨m2, 5, none⟩ (.bool std))) := (((((B5.out.setCell (p := ⟨m2, 0, none⟩) HGE.out _).setCell (p := ⟨m2, 1, none⟩) HGE.out _).setCell (p := ⟨m2, 2, none⟩) HGE.out _).setCell (p := ⟨m2, 3, none⟩) HGE.out _).setCell (p := ⟨m2, 4, none⟩) HGE.out _).setCell (p := ⟨m2, 5, none⟩) HGE.out _
    obtain ⟨w6, hw6⟩ := name_it ((((((w5.setCell ⟨m2, 0, none⟩ (.bool sth)).setCell ⟨m2, 1, none⟩ (.bool g1)).setCell ⟨m2, 2, none⟩ (.string Y)).setCell ⟨m2, 3, none⟩ (.bool stt)).setCell ⟨m2, 4, none⟩ (.int .i64 stm)).setCell ⟨m2, 5, none⟩ (.bool std))
    rw [hw6.out] at F6 B6 ⊢
    have z0 : w6.cell? ⟨m2, 0, none⟩ = some (.bool sth) := F6.out.cell 0
    have z1 : w6.cell? ⟨m2, 1, none⟩ = some (.bool g1) := F6.out.cell 1
    have z2 : w6.cell? ⟨m2, 2, none⟩ = some (.string Y) := F6.out.cell 2
    have z3 : w6.cell? ⟨m2, 3, none⟩ = some (.bool stt) := F6.out.cell 3
    have z4 : w6.cell? ⟨m2, 4, none⟩ = some (.int .i64 stm) := F6.out.cell 4
    have z5 : w6.cell? ⟨m2, 5, none⟩ = some (.bool std) := F6.out.cell 5
    clear hw6 C5 A5 B5 b5 C1 A1 B1 y0 y1 y2 y3 y4 y5 f0 f1 f2 f3 f4 f5
    go_wp2_with fail
    refine bodyPost_ret (v := .agg #[.bool sth, .bool g1, .string Y, .bool stt, .int .i64 stm, .bool std]) (by simp [results, Tryz.results11, go_sem, z0, z1, z2, z3, z4, z5]) rfl ⟨rfl, B6.out⟩
end Go.Proofs.YtjalfddedikibaaGreatDoor
