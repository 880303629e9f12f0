/- Contracts of tag's Parse, and of the document's. -/
import Derived.Test.YtjalfddedikibaaGreatDoorTagBJ
namespace Go.Proofs.YtjalfddedikibaaGreatDoor
open Go Go.RowKit
set_option maxHeartbeats 4000000

def parV (r : Tg × Nat × Int) : Value := .tuple #[encT r.1, .int .i64 (r.2.1 : Nat), .int .i64 r.2.2]
theorem parT_yes {l : List UInt8} {t : Tg} {n : Nat} {ok : Bool} (h : rdT l = (t, n, ok)) (h1 : ok = true) (h2 : n = l.length) : parT l = (t, 0, 0) := by unfold parT; rw [h, if_pos ⟨h1, h2⟩]
theorem parT_no {l : List UInt8} {t : Tg} {n : Nat} {ok : Bool} (h : rdT l = (t, n, ok)) (h1 : ¬ (ok = true ∧ n = l.length)) : parT l = (noT, n, 80) := by unfold parT; rw [h, if_neg h1]
theorem box2_put {w w1 : World} {T : TypeId} {n : Nat} {C : Array Value} (hC : ∃ x y, C = #[x, y]) (h : Blk w1 n T C) (hb : Below n w w1) (a b : Value) : Blk ((w1.setCell ⟨n, 0, none⟩ a).setCell ⟨n, 1, none⟩ b) n T #[a, b] ∧ Below n w ((w1.setCell ⟨n, 0, none⟩ a).setCell ⟨n, 1, none⟩ b) := by
  obtain ⟨x, y, rfl⟩ := hC
  exact ⟨(h.set 0 a).set 1 b, (hb.setCell (p := ⟨n, 0, none⟩) (Nat.le_refl _) _).setCell (p := ⟨n, 1, none⟩) (Nat.le_refl _) _⟩

set_option maxRecDepth 100000 in
theorem tparse_any (s : ByteArray) (w : World) (hs : s.size ≤ 1073741824) :
    Calls Tryz.prog 18 #[.string s] w fun e w' => e = .returned (parV (parT (L s))) ∧ Below w.heap.size w w' := by
  have RD := Lib.hid (fun wx => read_any s wx hs)
  have hle := rdT_le (L s)
  rw [L_length] at hle
  obtain ⟨r, hr⟩ := name_it (rdT (L s))
  rw [hr.out] at hle
  skip
  rw [hr.out] at RD
  obtain ⟨⟨tw, tx⟩, n, ok⟩ := r
  have HR : Hid (rdT (L s) = ((tw, tx), n, ok)) := hr
  simp only at hle
  clear hr
  have K0 : Hid (Blk (w.alloc (.cells #[.bool false, .string ⟨#[]⟩] 26)) w.heap.size 26 #[.bool false, .string ⟨#[]⟩]) := Blk.new w _ _
  have B0 := Lib.hid ((Below.refl w.heap.size w).alloc (Nat.le_refl _) (.cells #[.bool false, .string ⟨#[]⟩] 26))
  obtain ⟨X, hX⟩ := name_it (bs tx)
  unfold rdV encT at RD
  simp only [hX.out] at RD
  go_enter Tryz.func18, Tryz.ntmps18
  go_wp2_with fail
  refine (RD.out _).mono ?_; rintro e w1 ⟨rfl, hb⟩
  have K1 := Lib.hid (K0.out.below hb K0.out.lt)
  have B1 := Lib.hid (B0.out.trans (hb.mono B0.out.size))
  clear hb K0 B0 RD
  have c0 : w1.cell? ⟨w.heap.size, 0, none⟩ = some (.bool false) := K1.out.cell 0
  have c1 : w1.cell? ⟨w.heap.size, 1, none⟩ = some (.string ⟨#[]⟩) := K1.out.cell 1
  have f0 : w1.frozen? ⟨w.heap.size, 0, none⟩ = false := K1.out.frozen 0
  have f1 : w1.frozen? ⟨w.heap.size, 1, none⟩ = false := K1.out.frozen 1
  have hlt := K1.out.lt
  cases ok with
  | true =>
    by_cases hn : n < s.size
    · have HF : Hid (parT (L s) = (noT, n, 80)) := parT_no HR.out (by rintro ⟨_, h⟩; rw [L_length] at h; omega)
      have dn : decide (n < s.size) = true := decide_eq_true hn
      go_wp2_with fail
      all_goals (try (exfalso; omega))
      obtain ⟨K9, B9⟩ := box2_put ⟨_, _, rfl⟩ K1.out B1.out (.bool false) (.string ⟨#[]⟩)
      obtain ⟨w9, hw9⟩ := name_it ((w1.setCell ⟨w.heap.size, 0, none⟩ (.bool false)).setCell ⟨w.heap.size, 1, none⟩ (.string ⟨#[]⟩))
      rw [hw9.out] at K9 B9 ⊢
      clear c0 c1 f0 f1 hw9
      have g0 : w9.cell? ⟨w.heap.size, 0, none⟩ = some (.bool false) := K9.cell 0
      have g1 : w9.cell? ⟨w.heap.size, 1, none⟩ = some (.string ⟨#[]⟩) := K9.cell 1
      have hl9 := K9.lt
      refine bodyPost_ret (v := .tuple #[.agg #[.bool false, .string ⟨#[]⟩], .int .i64 (n : Nat), .int .i64 80]) (by simp [results, Tryz.results18, go_sem, g0, g1, hl9]) rfl ⟨by rw [HF.out]; first | rfl | (rw [← hX.out]; rfl), B9.alloc (Nat.le_of_lt hl9) _⟩
    · have HF : Hid (parT (L s) = ((tw, tx), 0, 0)) := parT_yes HR.out rfl (by rw [L_length]; omega)
      have dn : decide (n < s.size) = false := decide_eq_false hn
      go_wp2_with fail
      all_goals (try (exfalso; omega))
      obtain ⟨K9, B9⟩ := box2_put ⟨_, _, rfl⟩ K1.out B1.out (.bool tw) (.string X)
      obtain ⟨w9, hw9⟩ := name_it ((w1.setCell ⟨w.heap.size, 0, none⟩ (.bool tw)).setCell ⟨w.heap.size, 1, none⟩ (.string X))
      rw [hw9.out] at K9 B9 ⊢
      clear c0 c1 f0 f1 hw9
      have g0 : w9.cell? ⟨w.heap.size, 0, none⟩ = some (.bool tw) := K9.cell 0
      have g1 : w9.cell? ⟨w.heap.size, 1, none⟩ = some (.string X) := K9.cell 1
      have hl9 := K9.lt
      refine bodyPost_ret (v := .tuple #[.agg #[.bool tw, .string X], .int .i64 0, .int .i64 0]) (by simp [results, Tryz.results18, go_sem, g0, g1, hl9]) rfl ⟨by rw [HF.out]; first | rfl | (rw [← hX.out]; rfl), B9.alloc (Nat.le_of_lt hl9) _⟩
  | false =>
    have HF : Hid (parT (L s) = (noT, n, 80)) := parT_no HR.out (by rintro ⟨h, _⟩; cases h)
    go_wp2_with fail
    all_goals (try (exfalso; omega))
    obtain ⟨K9, B9⟩ := box2_put ⟨_, _, rfl⟩ K1.out B1.out (.bool false) (.string ⟨#[]⟩)
    obtain ⟨w9, hw9⟩ := name_it ((w1.setCell ⟨w.heap.size, 0, none⟩ (.bool false)).setCell ⟨w.heap.size, 1, none⟩ (.string ⟨#[]⟩))
    rw [hw9.out] at K9 B9 ⊢
    clear c0 c1 f0 f1 hw9
    have g0 : w9.cell? ⟨w.heap.size, 0, none⟩ = some (.bool false) := K9.cell 0
    have g1 : w9.cell? ⟨w.heap.size, 1, none⟩ = some (.string ⟨#[]⟩) := K9.cell 1
    have hl9 := K9.lt
    refine bodyPost_ret (v := .tuple #[.agg #[.bool false, .string ⟨#[]⟩], .int .i64 (n : Nat), .int .i64 80]) (by simp [results, Tryz.results18, go_sem, g0, g1, hl9]) rfl ⟨by rw [HF.out]; first | rfl | (rw [← hX.out]; rfl), B9.alloc (Nat.le_of_lt hl9) _⟩

set_option maxRecDepth 100000 in
theorem rtparse_any (s : ByteArray) (w : World) (hs : s.size ≤ 1073741824) :
    Calls Tryz.prog 31 #[.string s] w fun e w' => e = .returned (parV (parT (L s))) ∧ Below w.heap.size w w' := by
  have RD := Lib.hid (fun wx => trread_any s 0 wx hs (Nat.zero_le _))
  have hle := rdT_le (L s)
  rw [L_length] at hle
  obtain ⟨r, hr⟩ := name_it (rdT (L s))
  rw [hr.out] at hle
  rw [List.drop_zero] at RD
  rw [hr.out] at RD
  obtain ⟨⟨tw, tx⟩, n, ok⟩ := r
  have HR : Hid (rdT (L s) = ((tw, tx), n, ok)) := hr
  simp only at hle
  clear hr
  have K0 : Hid (Blk (w.alloc (.cells #[.bool false, .string ⟨#[]⟩] 36)) w.heap.size 36 #[.bool false, .string ⟨#[]⟩]) := Blk.new w _ _
  have B0 := Lib.hid ((Below.refl w.heap.size w).alloc (Nat.le_refl _) (.cells #[.bool false, .string ⟨#[]⟩] 36))
  obtain ⟨X, hX⟩ := name_it (bs tx)
  unfold rrdV encT at RD
  simp only [hX.out, Nat.zero_add] at RD
  go_enter Tryz.func31, Tryz.ntmps31
  go_wp2_with fail
  refine (RD.out _).mono ?_; rintro e w1 ⟨rfl, hb⟩
  have K1 := Lib.hid (K0.out.below hb K0.out.lt)
  have B1 := Lib.hid (B0.out.trans (hb.mono B0.out.size))
  clear hb K0 B0 RD
  have c0 : w1.cell? ⟨w.heap.size, 0, none⟩ = some (.bool false) := K1.out.cell 0
  have c1 : w1.cell? ⟨w.heap.size, 1, none⟩ = some (.string ⟨#[]⟩) := K1.out.cell 1
  have f0 : w1.frozen? ⟨w.heap.size, 0, none⟩ = false := K1.out.frozen 0
  have f1 : w1.frozen? ⟨w.heap.size, 1, none⟩ = false := K1.out.frozen 1
  have hlt := K1.out.lt
  cases ok with
  | true =>
    by_cases hn : n < s.size
    · have HF : Hid (parT (L s) = (noT, n, 80)) := parT_no HR.out (by rintro ⟨_, h⟩; rw [L_length] at h; omega)
      have dn : decide (n < s.size) = true := decide_eq_true hn
      go_wp2_with fail
      all_goals (try (exfalso; omega))
      obtain ⟨K9, B9⟩ := box2_put ⟨_, _, rfl⟩ K1.out B1.out (.bool false) (.string ⟨#[]⟩)
      obtain ⟨w9, hw9⟩ := name_it ((w1.setCell ⟨w.heap.size, 0, none⟩ (.bool false)).setCell ⟨w.heap.size, 1, none⟩ (.string ⟨#[]⟩))
      rw [hw9.out] at K9 B9 ⊢
      clear c0 c1 f0 f1 hw9
      have g0 : w9.cell? ⟨w.heap.size, 0, none⟩ = some (.bool false) := K9.cell 0
      have g1 : w9.cell? ⟨w.heap.size, 1, none⟩ = some (.string ⟨#[]⟩) := K9.cell 1
      have hl9 := K9.lt
      refine bodyPost_ret (v := .tuple #[.agg #[.bool false, .string ⟨#[]⟩], .int .i64 (n : Nat), .int .i64 80]) (by simp [results, Tryz.results31, go_sem, g0, g1, hl9]) rfl ⟨by rw [HF.out]; first | rfl | (rw [← hX.out]; rfl), B9.alloc (Nat.le_of_lt hl9) _⟩
    · have HF : Hid (parT (L s) = ((tw, tx), 0, 0)) := parT_yes HR.out rfl (by rw [L_length]; omega)
      have dn : decide (n < s.size) = false := decide_eq_false hn
      go_wp2_with fail
      all_goals (try (exfalso; omega))
      obtain ⟨K9, B9⟩ := box2_put ⟨_, _, rfl⟩ K1.out B1.out (.bool tw) (.string X)
      obtain ⟨w9, hw9⟩ := name_it ((w1.setCell ⟨w.heap.size, 0, none⟩ (.bool tw)).setCell ⟨w.heap.size, 1, none⟩ (.string X))
      rw [hw9.out] at K9 B9 ⊢
      clear c0 c1 f0 f1 hw9
      have g0 : w9.cell? ⟨w.heap.size, 0, none⟩ = some (.bool tw) := K9.cell 0
      have g1 : w9.cell? ⟨w.heap.size, 1, none⟩ = some (.string X) := K9.cell 1
      have hl9 := K9.lt
      refine bodyPost_ret (v := .tuple #[.agg #[.bool tw, .string X], .int .i64 0, .int .i64 0]) (by simp [results, Tryz.results31, go_sem, g0, g1, hl9]) rfl ⟨by rw [HF.out]; first | rfl | (rw [← hX.out]; rfl), B9.alloc (Nat.le_of_lt hl9) _⟩
  | false =>
    have HF : Hid (parT (L s) = (noT, n, 80)) := parT_no HR.out (by rintro ⟨h, _⟩; cases h)
    go_wp2_with fail
    all_goals (try (exfalso; omega))
    obtain ⟨K9, B9⟩ := box2_put ⟨_, _, rfl⟩ K1.out B1.out (.bool false) (.string ⟨#[]⟩)
    obtain ⟨w9, hw9⟩ := name_it ((w1.setCell ⟨w.heap.size, 0, none⟩ (.bool false)).setCell ⟨w.heap.size, 1, none⟩ (.string ⟨#[]⟩))
    rw [hw9.out] at K9 B9 ⊢
    clear c0 c1 f0 f1 hw9
    have g0 : w9.cell? ⟨w.heap.size, 0, none⟩ = some (.bool false) := K9.cell 0
    have g1 : w9.cell? ⟨w.heap.size, 1, none⟩ = some (.string ⟨#[]⟩) := K9.cell 1
    have hl9 := K9.lt
    refine bodyPost_ret (v := .tuple #[.agg #[.bool false, .string ⟨#[]⟩], .int .i64 (n : Nat), .int .i64 80]) (by simp [results, Tryz.results31, go_sem, g0, g1, hl9]) rfl ⟨by rw [HF.out]; first | rfl | (rw [← hX.out]; rfl), B9.alloc (Nat.le_of_lt hl9) _⟩
end Go.Proofs.YtjalfddedikibaaGreatDoor
