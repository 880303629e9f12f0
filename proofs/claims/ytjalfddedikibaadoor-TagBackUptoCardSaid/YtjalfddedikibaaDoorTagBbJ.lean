/- TagBack: the walk of the law. -/
import Derived.Test.YtjalfddedikibaaDoorTagBaJ
import Derived.Test.YtjalfddedikibaaDoorTagXJ
namespace Go.Proofs.YtjalfddedikibaaDoor
open Go Go.RowKit
set_option maxHeartbeats 8000000

/-- tags, bytes that lie somewhere -/
def TgSl (w : World) (v : Value) (l : List Tg) : Prop := ∃ p cap, v = .slice p l.length cap ∧ ∀ (j : Nat) (h : j < l.length), ∃ b off, p = some ⟨b, off, none⟩ ∧ b < w.heap.size ∧ w.cell? ⟨b, off + j * 2, none⟩ = some (.bool l[j].1) ∧ w.cell? ⟨b, off + j * 2 + 1, none⟩ = some (.string (bs l[j].2))
def BySl (w : World) (v : Value) (l : List UInt8) : Prop := ∃ p cap, v = .slice p l.length cap ∧ ∀ (j : Nat) (h : j < l.length), ∃ b off, p = some ⟨b, off, none⟩ ∧ b < w.heap.size ∧ w.cell? ⟨b, off + j, none⟩ = some (.int .u8 l[j].toNat)
theorem TgSl.next {W W' : World} {v : Value} {l : List Tg} (h : TgSl W v l) (hb : Below W.heap.size W W') : TgSl W' v l := by
  obtain ⟨p, cap, rfl, hc⟩ := h
  refine ⟨p, cap, rfl, fun j hj => ?_⟩
  obtain ⟨b, off, hp, hlt, h1, h2⟩ := hc j hj
  exact ⟨b, off, hp, Nat.lt_of_lt_of_le hlt hb.size, (hb.cell (p := ⟨b, off + j * 2, none⟩) hlt).trans h1, (hb.cell (p := ⟨b, off + j * 2 + 1, none⟩) hlt).trans h2⟩
theorem BySl.next {W W' : World} {v : Value} {l : List UInt8} (h : BySl W v l) (hb : Below W.heap.size W W') : BySl W' v l := by
  obtain ⟨p, cap, rfl, hc⟩ := h
  refine ⟨p, cap, rfl, fun j hj => ?_⟩
  obtain ⟨b, off, hp, hlt, h1⟩ := hc j hj
  exact ⟨b, off, hp, Nat.lt_of_lt_of_le hlt hb.size, (hb.cell (p := ⟨b, off + j, none⟩) hlt).trans h1⟩
/-- the gap that a byte says, as the law finds it -/
theorem gap_cases (c : UInt8) : (((c.toNat : Int) % 5 = 0 ∧ gapT c = []) ∨ ((c.toNat : Int) % 5 = 1 ∧ gapT c = [32]) ∨ ((c.toNat : Int) % 5 = 2 ∧ gapT c = [9, 32]) ∨ ((c.toNat : Int) % 5 = 3 ∧ gapT c = [44]) ∨ ((c.toNat : Int) % 5 = 4 ∧ gapT c = [32, 44, 32])) := by
  have h : c.toNat % 5 = 0 ∨ c.toNat % 5 = 1 ∨ c.toNat % 5 = 2 ∨ c.toNat % 5 = 3 ∨ c.toNat % 5 = 4 := by omega
  unfold gapT
  rcases h with h | h | h | h | h
  · exact Or.inl ⟨by omega, by rw [h]; rfl⟩
  · exact Or.inr (Or.inl ⟨by omega, by rw [h]; rfl⟩)
  · exact Or.inr (Or.inr (Or.inl ⟨by omega, by rw [h]; rfl⟩))
  · exact Or.inr (Or.inr (Or.inr (Or.inl ⟨by omega, by rw [h]; rfl⟩)))
  · exact Or.inr (Or.inr (Or.inr (Or.inr ⟨by omega, by rw [h]; rfl⟩)))

theorem cat_L (a b : ByteArray) : L (a ++ b) = L a ++ L b := by simp [L, ByteArray.data_append]

set_option maxRecDepth 100000 in
theorem lawBack_any (v : Value) (l : List Tg) (u : Value) (bl : List UInt8) (w : World) (hE : EnvS w) (hv : TgSl w v l) (hu : BySl w u bl) (hl : tSum l ≤ 1048576) (hbl : bl.length ≤ 1048576) :
    Calls Tryd.prog 7 #[v, u] w fun e w' => e = .returned (.bool true) ∧ Below w.heap.size w w' := by
  obtain ⟨i0, hi, hz0, hz1, hz2⟩ := info_parts infoRTg
  have AW := Lib.hid (awake_any w hE)
  have hll := tSum_len l
  have hl2 : l.length ≤ 1048576 := by omega
  have HL := Lib.hid hl
  obtain ⟨p, cap, hpv⟩ : ∃ p cap, v = .slice p l.length cap := by obtain ⟨p, cap, h, _⟩ := hv; exact ⟨p, cap, h⟩
  subst hpv
  obtain ⟨q, caq, hqu⟩ : ∃ p cap, u = .slice p bl.length cap := by obtain ⟨p, cap, h, _⟩ := hu; exact ⟨p, cap, h⟩
  subst hqu
  have HV := Lib.hid hv
  have HU := Lib.hid hu
  clear hE hv hu hl hll
  go_enter Tryd.func7, Tryd.ntmps7
  go_wp2_with fail
  refine AW.out.mono ?_; rintro e w1 ⟨rfl, b1⟩
  have HV1 : Hid (∀ j (h : j < l.length), ∃ b off, p = some ⟨b, off, none⟩ ∧ b < w1.heap.size ∧ w1.cell? ⟨b, off + j * 2, none⟩ = some (.bool l[j].1) ∧ w1.cell? ⟨b, off + j * 2 + 1, none⟩ = some (.string (bs l[j].2))) := by
    obtain ⟨p', cap', he, hc⟩ := HV.out.next b1
    injection he with e1 e2 e3
    subst e1
    exact hc
  have HU1 : Hid (∀ j (h : j < bl.length), ∃ b off, q = some ⟨b, off, none⟩ ∧ b < w1.heap.size ∧ w1.cell? ⟨b, off + j, none⟩ = some (.int .u8 bl[j].toNat)) := by
    obtain ⟨p', cap', he, hc⟩ := HU.out.next b1
    injection he with e1 e2 e3
    subst e1
    exact hc
  have D1 := Lib.hid b1
  have B0 : Hid (Below w1.heap.size w1 w1) := Below.refl _ _
  have O0 : Hid (w1.ownsRow w1.heap.size tRT 2 (.slice none 0 0) 0 (rowTg [])) := World.ownsRow_nil ..
  have T0 : Hid (L (⟨#[]⟩ : ByteArray) = textB (itemsB bl 0 (l.take 0)) ∧ ([] : List Tg) = (itemsB bl 0 (l.take 0)).map (·.2)) := ⟨rfl, rfl⟩
  have z0 : (⟨#[]⟩ : ByteArray).size = 0 := rfl
  clear AW b1 HV HU
  go_wp2_with fail
  go_loopw [5, 6, 22] (fun text want i wr => ∃ (k : Nat) (TX : ByteArray) (W : List Tg), k ≤ l.length ∧ i = .int .i64 k ∧ text = .string TX ∧ TX.size ≤ 4194304 ∧ W.length ≤ k ∧ Hid (L TX = textB (itemsB bl 0 (l.take k)) ∧ W = (itemsB bl 0 (l.take k)).map (·.2)) ∧ Hid (wr.ownsRow w1.heap.size tRT 2 want W.length (rowTg W)) ∧ Hid (Below w1.heap.size w1 wr)) (fun _ _ i _ => l.length - (intOf i).toNat)
  case atStart => exact ⟨0, ⟨#[]⟩, [], Nat.zero_le _, rfl, rfl, by decide, Nat.le_refl _, T0, O0, B0⟩
  clear B0 O0 T0
  case round =>
    obtain ⟨k, TX, W, hk, rfl, rfl, htx, hwk, hT, hO, hB⟩ := hrel
    obtain ⟨wq, hwq⟩ : ∃ wq, wq = wr := ⟨wr, rfl⟩
    subst hwq
    obtain ⟨so, co, hout⟩ := row_slice hO.out
    subst hout
    by_cases hlt : k < l.length
    · have q0 : (0 : Int) ≤ (k : Int) := by omega
      have q1 : (k : Int) < (l.length : Int) := by omega
      obtain ⟨b, off, rfl, hb, h1, h2⟩ := HV1.out k hlt
      have c1 : wq.cell? ⟨b, off + k * 2, none⟩ = _ := (hB.out.cell (p := ⟨b, off + k * 2, none⟩) hb).trans h1
      have c2 : wq.cell? ⟨b, off + k * 2 + 1, none⟩ = _ := (hB.out.cell (p := ⟨b, off + k * 2 + 1, none⟩) hb).trans h2
      have hfm := tSum_mem (List.getElem_mem hlt)
      have ht := itemsB_take bl l k hlt
      have hlen := textB_len bl (l.take (k + 1)) 0
      have hlk := tSum_take l (k + 1)
      obtain ⟨⟨t1, t2⟩, hf⟩ := name_it l[k]
      rw [hf.out] at c1 c2 hfm ht
      simp only at c1 c2 hfm ht
      have hfl : t2.length ≤ 1073741824 := by have := HL.out; omega
      have RI := Lib.hid (fun wx => right_any (t1, t2) wx hfl)
      have PR := Lib.hid (fun wx => tprint_any t1 (bs t2) wx (by rw [size_bs]; exact hfl))
      have PA := Lib.hid (fun wx (h : (printL (t1, t2)).length ≤ 1073741824) => tparse_any (bs (printL (t1, t2))) wx (by rw [size_bs]; exact h))
      have RF := Lib.hid (fun wx => ref_any (t1, t2) wx)
      have hpl := printL_len (t1, t2)
      have hgl := gapAt_ok bl k
      rw [L_bs] at PR PA
      have HT := Lib.hid ht
      have HLEN : Hid ((textB (itemsB bl 0 (l.take (k + 1)))).length ≤ 4194304) := by unfold Hid; have := HL.out; omega
      unfold encT at RI RF
      simp only at RI RF hpl
      obtain ⟨X, hX⟩ := name_it (bs t2)
      rw [hX.out] at c2 RI PR RF
      clear hb h1 h2 hf ht hlen hlk
      have KB : Hid (Blk (wq.alloc (.cells #[.bool t1, .string X] tT)) wq.heap.size tT #[.bool t1, .string X]) := Blk.new wq tT _
      have B1 : Hid (Below w1.heap.size w1 (wq.alloc (.cells #[.bool t1, .string X] tT))) := hB.out.alloc hB.out.size _
      have O1 : Hid ((wq.alloc (.cells #[.bool t1, .string X] tT)).ownsRow w1.heap.size tRT 2 (.slice so W.length co) W.length (rowTg W)) := hO.out.alloc _
      cases hg : goodT (t1, t2) with
      | false =>
        rw [hg] at RI
        have HT2 := HT.out
        rw [if_neg (by rw [hg]; decide)] at HT2
        have hT2 : Hid (L TX = textB (itemsB bl 0 (l.take (k + 1))) ∧ W = (itemsB bl 0 (l.take (k + 1))).map (·.2)) := by unfold Hid; rw [HT2]; exact hT.out
        clear HT HT2 hg PR PA RF hT hX KB hgl hpl HLEN
        go_wp2_with fail
        all_goals (try (exfalso; omega))
        refine (RI.out _).mono ?_; rintro e w9 ⟨rfl, b9⟩
        have O9 := Lib.hid (row_next O1.out b9)
        have B9 := Lib.hid (B1.out.trans (b9.mono B1.out.size))
        clear b9 O1 B1 RI c1 c2
        go_wp2_with fail
        all_goals (try (exfalso; omega))
        go_roundw
        case rel => exact ⟨k + 1, TX, W, by omega, by go_num, rfl, htx, by omega, hT2, O9, B9⟩
        case measure => simp [intOf] <;> omega
      | true =>
        rw [hg] at RI
        rw [prV_yes hg] at PR
        rw [parT_print _ hg] at PA
        have HT2 := HT.out
        rw [if_pos hg] at HT2
        have hpz : (printL (t1, t2)).length ≤ 260 := by have := (good_parts hg).2; simp only at this; omega
        have PA2 := Lib.hid (fun wx => PA.out wx (by omega))
        have HSN := Lib.hid (textB_snoc (itemsB bl 0 (l.take k)) (gapAt bl k, (t1, t2)))
        simp only at HSN
        have hSz : (bs (printL (t1, t2))).size ≤ 260 := by rw [size_bs]; exact hpz
        unfold parV encT at PA2
        simp only at PA2
        rw [hX.out] at PA2
        obtain ⟨S, hS⟩ := name_it (bs (printL (t1, t2)))
        rw [hS.out] at PR PA2 hSz
        have HS : Hid (L S = printL (t1, t2)) := by unfold Hid; rw [← hS.out, L_bs]
        have HX : Hid (bs t2 = X) := hX
        have HT3 : Hid (itemsB bl 0 (l.take (k + 1)) = itemsB bl 0 (l.take k) ++ [(gapAt bl k, (t1, t2))]) := HT2
        clear HT HT2 hg hX hS PA hpz hpl hgl
        go_wp2_with fail
        all_goals (try (exfalso; omega))
        refine (RI.out _).mono ?_; rintro e w2 ⟨rfl, b2⟩
        have O2 := Lib.hid (row_next O1.out b2)
        have B2 := Lib.hid (B1.out.trans (b2.mono B1.out.size))
        have K2 := Lib.hid (KB.out.below b2 KB.out.lt)
        clear b2 O1 B1 RI c1 c2 KB
        obtain ⟨m8, hm8⟩ := name_it wq.heap.size
        rw [hm8.out] at K2 ⊢
        clear hm8
        have c1 : w2.cell? ⟨m8, 0, none⟩ = some (.bool t1) := K2.out.cell 0
        have c2 : w2.cell? ⟨m8, 1, none⟩ = some (.string X) := K2.out.cell 1
        go_wp2_with fail
        all_goals (try (exfalso; omega))
        refine (PR.out _).mono ?_; rintro e w3 ⟨rfl, b3⟩
        have O3 := Lib.hid (row_next O2.out b3)
        have B3 := Lib.hid (B2.out.trans (b3.mono B2.out.size))
        have K3 := Lib.hid (K2.out.below b3 K2.out.lt)
        clear b3 O2 B2 K2 PR c1 c2
        go_wp2_with fail
        all_goals (try (exfalso; omega))
        refine (PA2.out _).mono ?_; rintro e w4 ⟨rfl, b4⟩
        have O4 := Lib.hid (row_next O3.out b4)
        have B4 := Lib.hid (B3.out.trans (b4.mono B3.out.size))
        have K4 := Lib.hid (K3.out.below b4 K3.out.lt)
        clear b4 O3 B3 K3 PA2
        have K5 : Hid (Blk (w4.alloc (.cells #[.bool t1, .string X] tT)) m8 tT #[.bool t1, .string X]) := K4.out.alloc _
        have J5 : Hid (Blk (w4.alloc (.cells #[.bool t1, .string X] tT)) w4.heap.size tT #[.bool t1, .string X]) := Blk.new w4 tT _
        have O5 := Lib.hid (O4.out.alloc (.cells #[.bool t1, .string X] tT))
        have B5 : Hid (Below w1.heap.size w1 (w4.alloc (.cells #[.bool t1, .string X] tT))) := B4.out.alloc B4.out.size _
        have c1 : (w4.alloc (.cells #[.bool t1, .string X] tT)).cell? ⟨m8, 0, none⟩ = some (.bool t1) := K5.out.cell 0
        have c2 : (w4.alloc (.cells #[.bool t1, .string X] tT)).cell? ⟨m8, 1, none⟩ = some (.string X) := K5.out.cell 1
        have hxx : (X.toList == X.toList) = true := by simp
        clear O4 B4 K4
        by_cases hgp : k < bl.length
        · have qg : (k : Int) < (bl.length : Int) := by omega
          obtain ⟨gb, go, rfl, hgb, h1⟩ := HU1.out k hgp
          have hgs : gb < (w4.alloc (.cells #[.bool t1, .string X] tT)).heap.size := Nat.lt_of_lt_of_le hgb B5.out.size
          have c3 : (w4.alloc (.cells #[.bool t1, .string X] tT)).cell? ⟨gb, go + k, none⟩ = some (.int .u8 bl[k].toNat) := (B5.out.cell (p := ⟨gb, go + k, none⟩) hgb).trans h1
          have hga : gapAt bl k = gapT bl[k] := by unfold gapAt; rw [dif_pos hgp]
          have hgc := gap_cases bl[k]
          obtain ⟨c, hc⟩ := name_it bl[k]
          rw [hc.out] at c3 hga hgc
          clear h1 hc
          have K6 := Lib.hid (K5.out.alloc (.cells #[.string ⟨#[]⟩, .string ⟨#[32]⟩, .string ⟨#[9, 32]⟩, .string ⟨#[44]⟩, .string ⟨#[32, 44, 32]⟩] tS))
          have O6 := Lib.hid (O5.out.alloc (.cells #[.string ⟨#[]⟩, .string ⟨#[32]⟩, .string ⟨#[9, 32]⟩, .string ⟨#[44]⟩, .string ⟨#[32, 44, 32]⟩] tS))
          have B6 : Hid (Below w1.heap.size w1 ((w4.alloc (.cells #[.bool t1, .string X] tT)).alloc (.cells #[.string ⟨#[]⟩, .string ⟨#[32]⟩, .string ⟨#[9, 32]⟩, .string ⟨#[44]⟩, .string ⟨#[32, 44, 32]⟩] tS))) := B5.out.alloc B5.out.size _
          have d1 : ((w4.alloc (.cells #[.bool t1, .string X] tT)).alloc (.cells #[.string ⟨#[]⟩, .string ⟨#[32]⟩, .string ⟨#[9, 32]⟩, .string ⟨#[44]⟩, .string ⟨#[32, 44, 32]⟩] tS)).cell? ⟨m8, 0, none⟩ = some (.bool t1) := K6.out.cell 0
          have d2 : ((w4.alloc (.cells #[.bool t1, .string X] tT)).alloc (.cells #[.string ⟨#[]⟩, .string ⟨#[32]⟩, .string ⟨#[9, 32]⟩, .string ⟨#[44]⟩, .string ⟨#[32, 44, 32]⟩] tS)).cell? ⟨m8, 1, none⟩ = some (.string X) := K6.out.cell 1
          have c4 : ((w4.alloc (.cells #[.bool t1, .string X] tT)).alloc (.cells #[.string ⟨#[]⟩, .string ⟨#[32]⟩, .string ⟨#[9, 32]⟩, .string ⟨#[44]⟩, .string ⟨#[32, 44, 32]⟩] tS)).cell? ⟨gb, go + k, none⟩ = some (.int .u8 c.toNat) := (((Below.refl _ _).alloc (Nat.le_refl _) _).cell (p := ⟨gb, go + k, none⟩) hgs).trans c3
          have hcn : (0 : Int) ≤ (c.toNat : Int) := by omega
          have htm : Int.tmod (c.toNat : Int) 5 = (c.toNat : Int) % 5 := Int.tmod_eq_emod_of_nonneg hcn
          rcases hgc with ⟨hm, hgt⟩ | ⟨hm, hgt⟩ | ⟨hm, hgt⟩ | ⟨hm, hgt⟩ | ⟨hm, hgt⟩
          all_goals rw [hgt] at hga
          all_goals rw [hm] at htm
          · have sz1 : (⟨#[]⟩ : ByteArray).size = 0 := rfl
            have sz2 : (⟨#[44]⟩ : ByteArray).size = 1 := rfl
            go_wp2_with fail
            all_goals (try (exfalso; omega))
            refine (RF.out _).mono ?_; rintro e w7 ⟨rfl, q7, os7, h7⟩
            have b7 : Below ((w4.alloc (.cells #[.bool t1, .string X] tT)).alloc (.cells #[.string ⟨#[]⟩, .string ⟨#[32]⟩, .string ⟨#[9, 32]⟩, .string ⟨#[44]⟩, .string ⟨#[32, 44, 32]⟩] tS)).heap.size ((w4.alloc (.cells #[.bool t1, .string X] tT)).alloc (.cells #[.string ⟨#[]⟩, .string ⟨#[32]⟩, .string ⟨#[9, 32]⟩, .string ⟨#[44]⟩, .string ⟨#[32, 44, 32]⟩] tS)) w7 := by rw [h7]; exact below_grow q7 os7
            have O7 := Lib.hid (row_next O6.out b7)
            have B7 := Lib.hid (B6.out.trans (b7.mono B6.out.size))
            clear b7 h7 d1 d2
            go_wp2_with (at_builtin; refine appendC rfl _ _ 36 rfl w1.heap.size tRT i0 (.agg #[.bool false, .string ⟨#[]⟩]) 2 24 Tryd.underlying36 hi hz0 hz1 hz2 rfl (by decide) O7.out rfl #[.bool t1, .string X] rfl (by intro u hu; simp only [List.mem_cons, List.not_mem_nil, or_false] at hu; rcases hu with rfl | rfl <;> rfl) rfl (by first | rfl | (simp; done)) ?_ ?_ ?_ ?_)
            · unfold maxLen; omega
            · omega
            · exact B7.out.size
            intro g8 c8 w8 hown8 b8
            have O8 : Hid (w8.ownsRow w1.heap.size tRT 2 (.slice (some ⟨g8, 0, none⟩) (W.length + 1) c8) (W ++ [(t1, t2)]).length (rowTg (W ++ [(t1, t2)]))) := by
              unfold Hid; rw [rowTg_snoc, List.length_append, List.length_singleton, HX.out]; exact hown8
            have B8 := Lib.hid (B7.out.trans b8)
            clear hown8 b8 O7 B7
            go_wp2_with fail
            all_goals (try (exfalso; omega))
            have HTX : Hid (L (TX ++ ((⟨#[]⟩ : ByteArray) ++ S ++ (⟨#[]⟩ : ByteArray) ++ ⟨#[44]⟩)) = textB (itemsB bl 0 (l.take (k + 1))) ∧ W ++ [(t1, t2)] = (itemsB bl 0 (l.take (k + 1))).map (·.2)) := by
              unfold Hid
              rw [HT3.out, HSN.out, hga, List.map_append, ← hT.out.2]
              refine ⟨?_, rfl⟩
              simp only [cat_L]
              rw [hT.out.1, HS.out, List.append_assoc, List.append_assoc]; rfl
            have HZX : (TX ++ ((⟨#[]⟩ : ByteArray) ++ S ++ (⟨#[]⟩ : ByteArray) ++ ⟨#[44]⟩)).size ≤ 4194304 := by
              rw [← L_length, HTX.out.1]; exact HLEN.out
            have LW : (W ++ [(t1, t2)]).length ≤ k + 1 := by rw [List.length_append, List.length_singleton]; omega
            have LW2 : (W ++ [(t1, t2)]).length = W.length + 1 := by rw [List.length_append, List.length_singleton]
            go_roundw
            case rel => exact ⟨k + 1, _, W ++ [(t1, t2)], by omega, by go_num, rfl, HZX, LW, HTX, O8, B8⟩
            case measure => simp [intOf] <;> omega
          · have sz1 : (⟨#[32]⟩ : ByteArray).size = 1 := rfl
            have sz2 : (⟨#[44]⟩ : ByteArray).size = 1 := rfl
            go_wp2_with fail
            all_goals (try (exfalso; omega))
            refine (RF.out _).mono ?_; rintro e w7 ⟨rfl, q7, os7, h7⟩
            have b7 : Below ((w4.alloc (.cells #[.bool t1, .string X] tT)).alloc (.cells #[.string ⟨#[]⟩, .string ⟨#[32]⟩, .string ⟨#[9, 32]⟩, .string ⟨#[44]⟩, .string ⟨#[32, 44, 32]⟩] tS)).heap.size ((w4.alloc (.cells #[.bool t1, .string X] tT)).alloc (.cells #[.string ⟨#[]⟩, .string ⟨#[32]⟩, .string ⟨#[9, 32]⟩, .string ⟨#[44]⟩, .string ⟨#[32, 44, 32]⟩] tS)) w7 := by rw [h7]; exact below_grow q7 os7
            have O7 := Lib.hid (row_next O6.out b7)
            have B7 := Lib.hid (B6.out.trans (b7.mono B6.out.size))
            clear b7 h7 d1 d2
            go_wp2_with (at_builtin; refine appendC rfl _ _ 36 rfl w1.heap.size tRT i0 (.agg #[.bool false, .string ⟨#[]⟩]) 2 24 Tryd.underlying36 hi hz0 hz1 hz2 rfl (by decide) O7.out rfl #[.bool t1, .string X] rfl (by intro u hu; simp only [List.mem_cons, List.not_mem_nil, or_false] at hu; rcases hu with rfl | rfl <;> rfl) rfl (by first | rfl | (simp; done)) ?_ ?_ ?_ ?_)
            · unfold maxLen; omega
            · omega
            · exact B7.out.size
            intro g8 c8 w8 hown8 b8
            have O8 : Hid (w8.ownsRow w1.heap.size tRT 2 (.slice (some ⟨g8, 0, none⟩) (W.length + 1) c8) (W ++ [(t1, t2)]).length (rowTg (W ++ [(t1, t2)]))) := by
              unfold Hid; rw [rowTg_snoc, List.length_append, List.length_singleton, HX.out]; exact hown8
            have B8 := Lib.hid (B7.out.trans b8)
            clear hown8 b8 O7 B7
            go_wp2_with fail
            all_goals (try (exfalso; omega))
            have HTX : Hid (L (TX ++ ((⟨#[32]⟩ : ByteArray) ++ S ++ (⟨#[32]⟩ : ByteArray) ++ ⟨#[44]⟩)) = textB (itemsB bl 0 (l.take (k + 1))) ∧ W ++ [(t1, t2)] = (itemsB bl 0 (l.take (k + 1))).map (·.2)) := by
              unfold Hid
              rw [HT3.out, HSN.out, hga, List.map_append, ← hT.out.2]
              refine ⟨?_, rfl⟩
              simp only [cat_L]
              rw [hT.out.1, HS.out, List.append_assoc, List.append_assoc]; rfl
            have HZX : (TX ++ ((⟨#[32]⟩ : ByteArray) ++ S ++ (⟨#[32]⟩ : ByteArray) ++ ⟨#[44]⟩)).size ≤ 4194304 := by
              rw [← L_length, HTX.out.1]; exact HLEN.out
            have LW : (W ++ [(t1, t2)]).length ≤ k + 1 := by rw [List.length_append, List.length_singleton]; omega
            have LW2 : (W ++ [(t1, t2)]).length = W.length + 1 := by rw [List.length_append, List.length_singleton]
            go_roundw
            case rel => exact ⟨k + 1, _, W ++ [(t1, t2)], by omega, by go_num, rfl, HZX, LW, HTX, O8, B8⟩
            case measure => simp [intOf] <;> omega
          · have sz1 : (⟨#[9, 32]⟩ : ByteArray).size = 2 := rfl
            have sz2 : (⟨#[44]⟩ : ByteArray).size = 1 := rfl
            go_wp2_with fail
            all_goals (try (exfalso; omega))
            refine (RF.out _).mono ?_; rintro e w7 ⟨rfl, q7, os7, h7⟩
            have b7 : Below ((w4.alloc (.cells #[.bool t1, .string X] tT)).alloc (.cells #[.string ⟨#[]⟩, .string ⟨#[32]⟩, .string ⟨#[9, 32]⟩, .string ⟨#[44]⟩, .string ⟨#[32, 44, 32]⟩] tS)).heap.size ((w4.alloc (.cells #[.bool t1, .string X] tT)).alloc (.cells #[.string ⟨#[]⟩, .string ⟨#[32]⟩, .string ⟨#[9, 32]⟩, .string ⟨#[44]⟩, .string ⟨#[32, 44, 32]⟩] tS)) w7 := by rw [h7]; exact below_grow q7 os7
            have O7 := Lib.hid (row_next O6.out b7)
            have B7 := Lib.hid (B6.out.trans (b7.mono B6.out.size))
            clear b7 h7 d1 d2
            go_wp2_with (at_builtin; refine appendC rfl _ _ 36 rfl w1.heap.size tRT i0 (.agg #[.bool false, .string ⟨#[]⟩]) 2 24 Tryd.underlying36 hi hz0 hz1 hz2 rfl (by decide) O7.out rfl #[.bool t1, .string X] rfl (by intro u hu; simp only [List.mem_cons, List.not_mem_nil, or_false] at hu; rcases hu with rfl | rfl <;> rfl) rfl (by first | rfl | (simp; done)) ?_ ?_ ?_ ?_)
            · unfold maxLen; omega
            · omega
            · exact B7.out.size
            intro g8 c8 w8 hown8 b8
            have O8 : Hid (w8.ownsRow w1.heap.size tRT 2 (.slice (some ⟨g8, 0, none⟩) (W.length + 1) c8) (W ++ [(t1, t2)]).length (rowTg (W ++ [(t1, t2)]))) := by
              unfold Hid; rw [rowTg_snoc, List.length_append, List.length_singleton, HX.out]; exact hown8
            have B8 := Lib.hid (B7.out.trans b8)
            clear hown8 b8 O7 B7
            go_wp2_with fail
            all_goals (try (exfalso; omega))
            have HTX : Hid (L (TX ++ ((⟨#[9, 32]⟩ : ByteArray) ++ S ++ (⟨#[9, 32]⟩ : ByteArray) ++ ⟨#[44]⟩)) = textB (itemsB bl 0 (l.take (k + 1))) ∧ W ++ [(t1, t2)] = (itemsB bl 0 (l.take (k + 1))).map (·.2)) := by
              unfold Hid
              rw [HT3.out, HSN.out, hga, List.map_append, ← hT.out.2]
              refine ⟨?_, rfl⟩
              simp only [cat_L]
              rw [hT.out.1, HS.out, List.append_assoc, List.append_assoc]; rfl
            have HZX : (TX ++ ((⟨#[9, 32]⟩ : ByteArray) ++ S ++ (⟨#[9, 32]⟩ : ByteArray) ++ ⟨#[44]⟩)).size ≤ 4194304 := by
              rw [← L_length, HTX.out.1]; exact HLEN.out
            have LW : (W ++ [(t1, t2)]).length ≤ k + 1 := by rw [List.length_append, List.length_singleton]; omega
            have LW2 : (W ++ [(t1, t2)]).length = W.length + 1 := by rw [List.length_append, List.length_singleton]
            go_roundw
            case rel => exact ⟨k + 1, _, W ++ [(t1, t2)], by omega, by go_num, rfl, HZX, LW, HTX, O8, B8⟩
            case measure => simp [intOf] <;> omega
          · have sz1 : (⟨#[44]⟩ : ByteArray).size = 1 := rfl
            go_wp2_with fail
            all_goals (try (exfalso; omega))
            refine (RF.out _).mono ?_; rintro e w7 ⟨rfl, q7, os7, h7⟩
            have b7 : Below ((w4.alloc (.cells #[.bool t1, .string X] tT)).alloc (.cells #[.string ⟨#[]⟩, .string ⟨#[32]⟩, .string ⟨#[9, 32]⟩, .string ⟨#[44]⟩, .string ⟨#[32, 44, 32]⟩] tS)).heap.size ((w4.alloc (.cells #[.bool t1, .string X] tT)).alloc (.cells #[.string ⟨#[]⟩, .string ⟨#[32]⟩, .string ⟨#[9, 32]⟩, .string ⟨#[44]⟩, .string ⟨#[32, 44, 32]⟩] tS)) w7 := by rw [h7]; exact below_grow q7 os7
            have O7 := Lib.hid (row_next O6.out b7)
            have B7 := Lib.hid (B6.out.trans (b7.mono B6.out.size))
            clear b7 h7 d1 d2
            go_wp2_with (at_builtin; refine appendC rfl _ _ 36 rfl w1.heap.size tRT i0 (.agg #[.bool false, .string ⟨#[]⟩]) 2 24 Tryd.underlying36 hi hz0 hz1 hz2 rfl (by decide) O7.out rfl #[.bool t1, .string X] rfl (by intro u hu; simp only [List.mem_cons, List.not_mem_nil, or_false] at hu; rcases hu with rfl | rfl <;> rfl) rfl (by first | rfl | (simp; done)) ?_ ?_ ?_ ?_)
            · unfold maxLen; omega
            · omega
            · exact B7.out.size
            intro g8 c8 w8 hown8 b8
            have O8 : Hid (w8.ownsRow w1.heap.size tRT 2 (.slice (some ⟨g8, 0, none⟩) (W.length + 1) c8) (W ++ [(t1, t2)]).length (rowTg (W ++ [(t1, t2)]))) := by
              unfold Hid; rw [rowTg_snoc, List.length_append, List.length_singleton, HX.out]; exact hown8
            have B8 := Lib.hid (B7.out.trans b8)
            clear hown8 b8 O7 B7
            go_wp2_with fail
            all_goals (try (exfalso; omega))
            have HTX : Hid (L (TX ++ ((⟨#[44]⟩ : ByteArray) ++ S ++ (⟨#[44]⟩ : ByteArray) ++ ⟨#[44]⟩)) = textB (itemsB bl 0 (l.take (k + 1))) ∧ W ++ [(t1, t2)] = (itemsB bl 0 (l.take (k + 1))).map (·.2)) := by
              unfold Hid
              rw [HT3.out, HSN.out, hga, List.map_append, ← hT.out.2]
              refine ⟨?_, rfl⟩
              simp only [cat_L]
              rw [hT.out.1, HS.out, List.append_assoc, List.append_assoc]; rfl
            have HZX : (TX ++ ((⟨#[44]⟩ : ByteArray) ++ S ++ (⟨#[44]⟩ : ByteArray) ++ ⟨#[44]⟩)).size ≤ 4194304 := by
              rw [← L_length, HTX.out.1]; exact HLEN.out
            have LW : (W ++ [(t1, t2)]).length ≤ k + 1 := by rw [List.length_append, List.length_singleton]; omega
            have LW2 : (W ++ [(t1, t2)]).length = W.length + 1 := by rw [List.length_append, List.length_singleton]
            go_roundw
            case rel => exact ⟨k + 1, _, W ++ [(t1, t2)], by omega, by go_num, rfl, HZX, LW, HTX, O8, B8⟩
            case measure => simp [intOf] <;> omega
          · have sz1 : (⟨#[32, 44, 32]⟩ : ByteArray).size = 3 := rfl
            have sz2 : (⟨#[44]⟩ : ByteArray).size = 1 := rfl
            go_wp2_with fail
            all_goals (try (exfalso; omega))
            refine (RF.out _).mono ?_; rintro e w7 ⟨rfl, q7, os7, h7⟩
            have b7 : Below ((w4.alloc (.cells #[.bool t1, .string X] tT)).alloc (.cells #[.string ⟨#[]⟩, .string ⟨#[32]⟩, .string ⟨#[9, 32]⟩, .string ⟨#[44]⟩, .string ⟨#[32, 44, 32]⟩] tS)).heap.size ((w4.alloc (.cells #[.bool t1, .string X] tT)).alloc (.cells #[.string ⟨#[]⟩, .string ⟨#[32]⟩, .string ⟨#[9, 32]⟩, .string ⟨#[44]⟩, .string ⟨#[32, 44, 32]⟩] tS)) w7 := by rw [h7]; exact below_grow q7 os7
            have O7 := Lib.hid (row_next O6.out b7)
            have B7 := Lib.hid (B6.out.trans (b7.mono B6.out.size))
            clear b7 h7 d1 d2
            go_wp2_with (at_builtin; refine appendC rfl _ _ 36 rfl w1.heap.size tRT i0 (.agg #[.bool false, .string ⟨#[]⟩]) 2 24 Tryd.underlying36 hi hz0 hz1 hz2 rfl (by decide) O7.out rfl #[.bool t1, .string X] rfl (by intro u hu; simp only [List.mem_cons, List.not_mem_nil, or_false] at hu; rcases hu with rfl | rfl <;> rfl) rfl (by first | rfl | (simp; done)) ?_ ?_ ?_ ?_)
            · unfold maxLen; omega
            · omega
            · exact B7.out.size
            intro g8 c8 w8 hown8 b8
            have O8 : Hid (w8.ownsRow w1.heap.size tRT 2 (.slice (some ⟨g8, 0, none⟩) (W.length + 1) c8) (W ++ [(t1, t2)]).length (rowTg (W ++ [(t1, t2)]))) := by
              unfold Hid; rw [rowTg_snoc, List.length_append, List.length_singleton, HX.out]; exact hown8
            have B8 := Lib.hid (B7.out.trans b8)
            clear hown8 b8 O7 B7
            go_wp2_with fail
            all_goals (try (exfalso; omega))
            have HTX : Hid (L (TX ++ ((⟨#[32, 44, 32]⟩ : ByteArray) ++ S ++ (⟨#[32, 44, 32]⟩ : ByteArray) ++ ⟨#[44]⟩)) = textB (itemsB bl 0 (l.take (k + 1))) ∧ W ++ [(t1, t2)] = (itemsB bl 0 (l.take (k + 1))).map (·.2)) := by
              unfold Hid
              rw [HT3.out, HSN.out, hga, List.map_append, ← hT.out.2]
              refine ⟨?_, rfl⟩
              simp only [cat_L]
              rw [hT.out.1, HS.out, List.append_assoc, List.append_assoc]; rfl
            have HZX : (TX ++ ((⟨#[32, 44, 32]⟩ : ByteArray) ++ S ++ (⟨#[32, 44, 32]⟩ : ByteArray) ++ ⟨#[44]⟩)).size ≤ 4194304 := by
              rw [← L_length, HTX.out.1]; exact HLEN.out
            have LW : (W ++ [(t1, t2)]).length ≤ k + 1 := by rw [List.length_append, List.length_singleton]; omega
            have LW2 : (W ++ [(t1, t2)]).length = W.length + 1 := by rw [List.length_append, List.length_singleton]
            go_roundw
            case rel => exact ⟨k + 1, _, W ++ [(t1, t2)], by omega, by go_num, rfl, HZX, LW, HTX, O8, B8⟩
            case measure => simp [intOf] <;> omega
        · have hga : gapAt bl k = [] := by unfold gapAt; rw [dif_neg hgp]
          have hqg : ¬ (k : Int) < (bl.length : Int) := by omega
          have d1 := c1
          have d2 := c2
          have sz1 : (⟨#[]⟩ : ByteArray).size = 0 := rfl
          have sz2 : (⟨#[44]⟩ : ByteArray).size = 1 := rfl
          go_wp2_with fail
          all_goals (try (exfalso; omega))
          refine (RF.out _).mono ?_; rintro e w7 ⟨rfl, q7, os7, h7⟩
          have b7 : Below (w4.alloc (.cells #[.bool t1, .string X] tT)).heap.size (w4.alloc (.cells #[.bool t1, .string X] tT)) w7 := by rw [h7]; exact below_grow q7 os7
          have O7 := Lib.hid (row_next O5.out b7)
          have B7 := Lib.hid (B5.out.trans (b7.mono B5.out.size))
          clear b7 h7 d1 d2
          go_wp2_with (at_builtin; refine appendC rfl _ _ 36 rfl w1.heap.size tRT i0 (.agg #[.bool false, .string ⟨#[]⟩]) 2 24 Tryd.underlying36 hi hz0 hz1 hz2 rfl (by decide) O7.out rfl #[.bool t1, .string X] rfl (by intro u hu; simp only [List.mem_cons, List.not_mem_nil, or_false] at hu; rcases hu with rfl | rfl <;> rfl) rfl (by first | rfl | (simp; done)) ?_ ?_ ?_ ?_)
          · unfold maxLen; omega
          · omega
          · exact B7.out.size
          intro g8 c8 w8 hown8 b8
          have O8 : Hid (w8.ownsRow w1.heap.size tRT 2 (.slice (some ⟨g8, 0, none⟩) (W.length + 1) c8) (W ++ [(t1, t2)]).length (rowTg (W ++ [(t1, t2)]))) := by
            unfold Hid; rw [rowTg_snoc, List.length_append, List.length_singleton, HX.out]; exact hown8
          have B8 := Lib.hid (B7.out.trans b8)
          clear hown8 b8 O7 B7
          go_wp2_with fail
          all_goals (try (exfalso; omega))
          have HTX : Hid (L (TX ++ ((⟨#[]⟩ : ByteArray) ++ S ++ (⟨#[]⟩ : ByteArray) ++ ⟨#[44]⟩)) = textB (itemsB bl 0 (l.take (k + 1))) ∧ W ++ [(t1, t2)] = (itemsB bl 0 (l.take (k + 1))).map (·.2)) := by
            unfold Hid
            rw [HT3.out, HSN.out, hga, List.map_append, ← hT.out.2]
            refine ⟨?_, rfl⟩
            simp only [cat_L]
            rw [hT.out.1, HS.out, List.append_assoc, List.append_assoc]; rfl
          have HZX : (TX ++ ((⟨#[]⟩ : ByteArray) ++ S ++ (⟨#[]⟩ : ByteArray) ++ ⟨#[44]⟩)).size ≤ 4194304 := by
            rw [← L_length, HTX.out.1]; exact HLEN.out
          have LW : (W ++ [(t1, t2)]).length ≤ k + 1 := by rw [List.length_append, List.length_singleton]; omega
          have LW2 : (W ++ [(t1, t2)]).length = W.length + 1 := by rw [List.length_append, List.length_singleton]
          go_roundw
          case rel => exact ⟨k + 1, _, W ++ [(t1, t2)], by omega, by go_num, rfl, HZX, LW, HTX, O8, B8⟩
          case measure => simp [intOf] <;> omega
    · obtain rfl : k = l.length := by omega
      rw [List.take_length] at hT
      cases hits : itemsB bl 0 l with
      | nil =>
        have hW : W = [] := by rw [hT.out.2, hits]; rfl
        subst hW
        have hw0 : (([] : List Tg).length : Int) = 0 := rfl
        go_wp2_with fail
        all_goals (try (exfalso; omega))
        go_ret
        exact ⟨rfl, D1.out.trans (hB.out.mono D1.out.size)⟩
      | cons x r =>
        have hne : itemsB bl 0 l ≠ [] := by rw [hits]; intro h; cases h
        have hLT : listT (L TX) = ⟨W, false, 0, 0⟩ := by
          rw [hT.out.1, hT.out.2]; exact listT_items _ (itemsB_ok bl l 0) hne
        have hW : 0 < W.length := by
          rw [hT.out.2, List.length_map, hits]; simp
        have LS := Lib.hid (fun wx => list_any TX wx (by omega))
        rw [hLT] at LS
        unfold ListRes at LS
        simp only at LS
        have hw0 : (0 : Int) < (W.length : Int) := by omega
        have hwt : W.length ≤ 1073741824 := by omega
        clear hLT hne hits hT HV1 HU1
        go_wp2_with fail
        all_goals (try (exfalso; omega))
        refine (LS.out _).mono ?_; rintro e w2 ⟨⟨v2, rfl, o2⟩, b2⟩
        have SA := Lib.hid (sameTg_any _ _ v2 _ W w2 o2 (row_next hO.out b2) hwt)
        have B2 := Lib.hid (hB.out.trans (b2.mono hB.out.size))
        clear b2 LS o2
        go_wp2_with fail
        all_goals (try (exfalso; omega))
        refine SA.out.mono ?_; rintro e w3 ⟨rfl, b3⟩
        have B3 := Lib.hid (B2.out.trans (b3.mono B2.out.size))
        clear b3 SA
        go_wp2_with fail
        all_goals (try (exfalso; omega))
        all_goals go_ret
        all_goals exact ⟨ret_bool (by simp), D1.out.trans (B3.out.mono D1.out.size)⟩
end Go.Proofs.YtjalfddedikibaaDoor
