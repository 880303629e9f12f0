/- TagApart: the walk of the law. -/
import Derived.Test.YtjalfddedikibaaDoorTagZaJ
import Derived.Deep.RegionLaw
namespace Go.Proofs.YtjalfddedikibaaDoor
open Go Go.RowKit
set_option maxHeartbeats 8000000

abbrev tAsk : TypeId := 42
/-- what the law has laid: what was asked, what the resource is -/
structure AP (w W : World) (m1 m2 : Nat) (M : ByteArray) (va : Value) (l : List Fd) (s : Sta) (now : Int) : Prop where
  env : EnvS W
  ask : Blk W m1 tAsk #[.string M, va, .int .i64 now]
  sta : Blk W m2 tSt (stateC s)
  fd : FdSl W va l
  below : Below w.heap.size w W
theorem AP.next {w W W' : World} {m1 m2 : Nat} {M : ByteArray} {va : Value} {l : List Fd} {s : Sta} {now : Int} (h : AP w W m1 m2 M va l s now) (hb : Below W.heap.size W W') : AP w W' m1 m2 M va l s now :=
  ⟨h.env.next hb, h.ask.below hb h.ask.lt, h.sta.below hb h.sta.lt, h.fd.next hb, h.below.trans (hb.mono h.below.size)⟩
def APc (m1 m2 : Nat) (M : ByteArray) (va : Value) (s : Sta) (now : Int) (X : ByteArray) (W : World) : Prop :=
  W.cell? ⟨m1, 0, none⟩ = some (.string M) ∧ W.cell? ⟨m1, 1, none⟩ = some va ∧ W.cell? ⟨m1, 2, none⟩ = some (.int .i64 now) ∧ W.cell? ⟨m2, 0, none⟩ = some (.bool s.there) ∧ W.cell? ⟨m2, 1, none⟩ = some (.bool s.tag.1) ∧ W.cell? ⟨m2, 2, none⟩ = some (.string X) ∧ W.cell? ⟨m2, 3, none⟩ = some (.bool s.tagged) ∧ W.cell? ⟨m2, 4, none⟩ = some (.int .i64 s.time) ∧ W.cell? ⟨m2, 5, none⟩ = some (.bool s.timed)
theorem AP.cells {w W : World} {m1 m2 : Nat} {M : ByteArray} {va : Value} {l : List Fd} {s : Sta} {now : Int} (h : AP w W m1 m2 M va l s now) : APc m1 m2 M va s now (bs s.tag.2) W :=
  ⟨h.ask.cell 0, h.ask.cell 1, h.ask.cell 2, h.sta.cell 0, h.sta.cell 1, h.sta.cell 2, h.sta.cell 3, h.sta.cell 4, h.sta.cell 5⟩
theorem AP.first {w : World} {M : ByteArray} {va : Value} {l : List Fd} {s : Sta} {now : Int} (hE : EnvS w) (hv : FdSl w va l) :
    AP w ((w.alloc (.cells #[.string M, va, .int .i64 now] tAsk)).alloc (.cells (stateC s) tSt)) w.heap.size (w.heap.size + 1) M va l s now := by
  have z1 : (w.alloc (.cells #[.string M, va, .int .i64 now] tAsk)).heap.size = w.heap.size + 1 := Array.size_push ..
  have hb : Below w.heap.size w ((w.alloc (.cells #[.string M, va, .int .i64 now] tAsk)).alloc (.cells (stateC s) tSt)) := bel2 w _ _
  have h2 := Blk.new (w.alloc (.cells #[.string M, va, .int .i64 now] tAsk)) tSt (stateC s)
  rw [z1] at h2
  exact ⟨hE.next hb, (Blk.new w tAsk _).alloc _, h2, hv.next hb, hb⟩
theorem own_none2 (w : World) (base : Nat) (e : TypeId) (hb : base ≤ w.heap.size) : (w.alloc (.cells #[] e)).ownsRow base e 2 (.slice (some ⟨w.heap.size, 0, none⟩) 0 0) 0 [] := World.ownsRow_lit w #[] 0 hb (by unfold maxLen; omega) rfl

set_option maxRecDepth 100000 in
theorem lawApart_any (M : ByteArray) (va : Value) (l : List Fd) (now : Int) (s : Sta) (w : World) (hE : EnvS w) (hv : FdSl w va l) (hl : fSum l ≤ 1048576) :
    Calls Tryd.prog 5 #[.agg #[.string M, va, .int .i64 now], encSt s] w fun e w' => e = .returned (.bool true) ∧ Below w.heap.size w w' := by
  obtain ⟨p, cap, hpv⟩ : ∃ p cap, va = .slice p l.length cap := by obtain ⟨p, cap, h, _⟩ := hv; exact ⟨p, cap, h⟩
  subst hpv
  have A0 := Lib.hid (AP.first (M := M) (s := s) (now := now) hE hv)
  have AW := Lib.hid (awake_any _ A0.out.env)
  have hl2 := fSum_len l
  have HLL : Hid (l.length ≤ 1048576) := by unfold Hid; omega
  have HL := Lib.hid hl
  have DE := Lib.hid (fun v W (h1 : EnvS W) (k : List Fd) (h2 : FdSl W v k) (h3 : fSum k ≤ 1048576) => decide_any M v k s now W h1 h2 h3)
  obtain ⟨rd, hrd⟩ := name_it (readsT (L M))
  rw [hrd.out] at DE
  have HR : Hid (rd = ((M.toList == [71, 69, 84]) || (M.toList == [72, 69, 65, 68]))) := by
    unfold Hid; rw [← hrd.out]; unfold readsT; rw [toList_L]; exact Bool.eq_iff_iff.2 (by simp)
  unfold encSt at DE ⊢
  unfold stateC at A0 AW
  have CA : Hid (∀ W, AP w W w.heap.size (w.heap.size + 1) M (.slice p l.length cap) l s now → APc w.heap.size (w.heap.size + 1) M (.slice p l.length cap) s now (bs s.tag.2) W) := fun W h => h.cells
  obtain ⟨X, hX⟩ := name_it (bs s.tag.2)
  simp only [hX.out] at A0 AW DE CA ⊢
  clear hE hv hl hl2 hrd hX
  go_enter Tryd.func5, Tryd.ntmps5
  go_wp2_with fail
  obtain ⟨w0, hw0⟩ := name_it ((w.alloc (.cells #[.string M, .slice p l.length cap, .int .i64 now] tAsk)).alloc (.cells #[.bool s.there, .bool s.tag.1, .string X, .bool s.tagged, .int .i64 s.time, .bool s.timed] tSt))
  rw [hw0.out] at A0 AW ⊢
  obtain ⟨m2, hm2⟩ := name_it (w.heap.size + 1)
  rw [hm2.out] at A0 CA ⊢
  obtain ⟨m1, hm1⟩ := name_it w.heap.size
  rw [hm1.out] at A0 CA ⊢
  clear hw0 hm2
  refine AW.out.mono ?_; rintro e w1 ⟨rfl, b1⟩
  have A1 := Lib.hid (A0.out.next b1)
  clear b1 A0 AW
  have hd1 : Below w1.heap.size w1 w1.drew := (Below.refl _ _).drew
  have A1d := Lib.hid (A1.out.next hd1)
  have z1 : w1.drew.heap.size = w1.heap.size := rfl
  have K1 : Hid ((w1.drew.alloc (.cells #[] tF)).ownsRow w1.heap.size tF 2 (.slice (some ⟨w1.heap.size, 0, none⟩) 0 0) 0 []) := own_none2 w1.drew w1.heap.size tF (Nat.le_refl _)
  have F1 : Hid (FdSl (w1.drew.alloc (.cells #[] tF)) (.slice p l.length cap) l) := A1d.out.fd.next ((Below.refl _ _).alloc (Nat.le_refl _) _)
  have AX : Hid (AP w (w1.drew.alloc (.cells #[] tF)) m1 m2 M (.slice p l.length cap) l s now) := A1d.out.next ((Below.refl _ _).alloc (Nat.le_refl _) _)
  have ZX : Hid (w1.heap.size ≤ (w1.drew.alloc (.cells #[] tF)).heap.size) := ((Below.refl w1.drew.heap.size w1.drew).alloc (Nat.le_refl _) (.cells #[] tF)).size
  have KX : Hid (Below w1.heap.size w1 (w1.drew.alloc (.cells #[] tF))) := hd1.alloc hd1.size _
  clear hd1 z1
  go_wp2_with fail
  go_region_held3 (fun W => W.cell? ⟨m1, 0, none⟩ = some (.string M) ∧ W.cell? ⟨m1, 1, none⟩ = some (.slice p l.length cap) ∧ W.cell? ⟨m1, 2, none⟩ = some (.int .i64 now) ∧ W.cell? ⟨m2, 0, none⟩ = some (.bool s.there) ∧ W.cell? ⟨m2, 1, none⟩ = some (.bool s.tag.1) ∧ W.cell? ⟨m2, 2, none⟩ = some (.string X) ∧ W.cell? ⟨m2, 3, none⟩ = some (.bool s.tagged) ∧ W.cell? ⟨m2, 4, none⟩ = some (.int .i64 s.time) ∧ W.cell? ⟨m2, 5, none⟩ = some (.bool s.timed))
    (first | exact CA.out _ A1d.out | exact CA.out _ L5.out | exact CA.out _ AX.out | go_keep)
    (first
      | (refine step_append_fd (by rfl) _ _ (by rfl) (by rfl) K1.out F1.out (by rfl) HLL.out ZX.out ?_; intro v7 w7 hown7 b7; have L5 : Hid (AP w w7 m1 m2 M (.slice p l.length cap) l s now) := A1.out.next (KX.out.trans b7))
      | (go_at_call 15; refine (DE.out _ _ L5.out.env l (fd_of_row hown7) HL.out).mono ?_; rintro e w8 ⟨rfl, b8⟩; have L5 := Lib.hid (L5.out.next b8)))
  all_goals (try (exfalso; omega))
  have A8 := L5
  have N3 := Lib.hid (decide_three rd s now l)
  have NR : Hid (rd = false → decideT rd s now l ≠ 304) := fun h => by subst h; exact decide_reads s now l
  have NN : Hid (fewL l = [] → decideT rd s now l = 0) := few_nil rd s now l
  have NF := Lib.hid (few_decide rd s now l)
  obtain ⟨n, hn⟩ := name_it (decideT rd s now l)
  rw [hn.out] at N3 NR NN NF
  simp only [hn.out]
  clear hn K1 F1 AX ZX KX hown7 b7 b8 A1 A1d L5
  have B0 : Hid (Below w8.heap.size w8 w8) := Below.refl _ _
  have O0 : Hid (w8.ownsRow w8.heap.size tF 2 (.slice none 0 0) 0 (rowFd [])) := World.ownsRow_nil ..
  have HFD : Hid (∀ j (h : j < l.length), ∃ b off, p = some ⟨b, off, none⟩ ∧ b < w8.heap.size ∧ w8.cell? ⟨b, off + j * 2, none⟩ = some (.string (bs l[j].1)) ∧ w8.cell? ⟨b, off + j * 2 + 1, none⟩ = some (.string (bs l[j].2))) := by
    obtain ⟨p', cap', he, hc⟩ := A8.out.fd
    injection he with e1 e2 e3
    subst e1
    exact hc
  have HM8 : Hid (w8.cell? ⟨m1, 1, none⟩ = some (.slice p l.length cap)) := A8.out.ask.cell 1
  have c8 := HM8.out
  go_wp2_with fail
  obtain ⟨i0, hi, hz0, hz1, hz2⟩ := info_parts infoF
  go_loopw [6, 24] (fun out i wr => ∃ k : Nat, k ≤ l.length ∧ i = .int .i64 k ∧ Hid (wr.ownsRow w8.heap.size tF 2 out (fewL (l.take k)).length (rowFd (fewL (l.take k)))) ∧ Hid (Below w8.heap.size w8 wr)) (fun _ i _ => l.length - (intOf i).toNat)
  case atStart => exact ⟨0, Nat.zero_le _, rfl, O0, B0⟩
  clear O0 B0 c8
  case round =>
    obtain ⟨k, hk, rfl, hO, hB⟩ := hrel
    obtain ⟨wq, hwq⟩ : ∃ wq, wq = wr := ⟨wr, rfl⟩
    subst hwq
    have hll : l.length ≤ 1048576 := HLL.out
    obtain ⟨so, co, hout⟩ := row_slice hO.out
    subst hout
    by_cases hlt : k < l.length
    · have q0 : (0 : Int) ≤ (k : Int) := by omega
      have q1 : (k : Int) < (l.length : Int) := by omega
      obtain ⟨b, off, rfl, hb, h1, h2⟩ := HFD.out k hlt
      have c1 : wq.cell? ⟨b, off + k * 2, none⟩ = _ := (hB.out.cell (p := ⟨b, off + k * 2, none⟩) hb).trans h1
      have c2 : wq.cell? ⟨b, off + k * 2 + 1, none⟩ = _ := (hB.out.cell (p := ⟨b, off + k * 2 + 1, none⟩) hb).trans h2
      have hfm := fSum_mem (List.getElem_mem hlt)
      have ht := few_take l k hlt
      have hvl : (fewL (l.take k)).length ≤ k := Nat.le_trans (few_len _) (by rw [List.length_take]; omega)
      have hacl : (fewL (l.take k)).length ≤ 1048576 := by have := HLL.out; omega
      obtain ⟨acc, hacc⟩ := name_it (fewL (l.take k))
      rw [hacc.out] at hO ht hvl hacl ⊢
      obtain ⟨⟨fn, fv⟩, hf⟩ := name_it l[k]
      rw [hf.out] at c1 c2 hfm ht
      simp only at c1 c2 hfm ht
      have hfl : (bs fn).size ≤ 1048576 := by rw [size_bs]; have := HL.out; omega
      have MI := Lib.hid (fun wx => mine_any (bs fn) wx hfl)
      have LO := Lib.hid (fun wx => rlower6_any (bs fn) wx (by unfold maxLen; omega))
      rw [L_bs] at MI LO
      have HT := Lib.hid ht
      obtain ⟨F, hF⟩ := name_it (bs fn)
      obtain ⟨V, hV⟩ := name_it (bs fv)
      obtain ⟨G, hG⟩ := name_it (bs (lower fn))
      rw [hF.out] at c1 MI LO
      rw [hV.out] at c2
      rw [hG.out] at LO
      have GF : Hid (bs (lower fn) = G ∧ bs fv = V) := ⟨hG.out, hV.out⟩
      clear hb h1 h2 hf hacc hfm ht hF hV hG hfl
      have KB : Hid (Blk (wq.alloc (.cells #[.string F, .string V] tF)) wq.heap.size tF #[.string F, .string V]) := Blk.new wq tF _
      have B1 : Hid (Below w8.heap.size w8 (wq.alloc (.cells #[.string F, .string V] tF))) := hB.out.alloc hB.out.size _
      have O1 : Hid ((wq.alloc (.cells #[.string F, .string V] tF)).ownsRow w8.heap.size tF 2 (.slice so acc.length co) acc.length (rowFd acc)) := hO.out.alloc _
      have NE : Hid ((Value.slice so acc.length co).ownBlock ≠ some wq.heap.size) := fun h => by
        have := (World.ownsRow.lt hO.out _ h).2; omega
      go_wp2_with fail
      all_goals (try (exfalso; omega))
      refine (MI.out _).mono ?_; rintro e w9 ⟨rfl, b9⟩
      have K9 := Lib.hid (KB.out.below b9 KB.out.lt)
      have O9 := Lib.hid (row_next O1.out b9)
      have B9 := Lib.hid (B1.out.trans (b9.mono B1.out.size))
      clear b9 KB O1 B1 MI c1 c2
      obtain ⟨g8, hg8⟩ := name_it wq.heap.size
      rw [hg8.out] at K9 NE ⊢
      clear hg8
      cases hm : mineB fn with
      | true =>
        have HT2 := HT.out
        rw [if_pos hm] at HT2
        have HT3 := Lib.hid HT2
        have LEN : Hid ((fewL (l.take (k + 1))).length = acc.length + 1) := by unfold Hid; rw [HT2, List.length_append, List.length_singleton]
        clear HT HT2 hm
        have x0 : w9.cell? ⟨g8, 0, none⟩ = some (.string F) := K9.out.cell 0
        have x1 : w9.cell? ⟨g8, 1, none⟩ = some (.string V) := K9.out.cell 1
        have hd9 : Below w9.heap.size w9 w9.drew := (Below.refl _ _).drew
        have K9d := Lib.hid (K9.out.below hd9 K9.out.lt)
        have O9d := Lib.hid (row_next O9.out hd9)
        have B9d := Lib.hid (B9.out.trans (hd9.mono B9.out.size))
        have KC : Hid (∀ W, Blk W g8 tF #[.string F, .string V] → W.cell? ⟨g8, 0, none⟩ = some (.string F) ∧ W.cell? ⟨g8, 1, none⟩ = some (.string V)) := fun W h => ⟨h.cell 0, h.cell 1⟩
        clear hd9 O9 B9
        go_wp2_with fail
        go_region_held3 (fun W => W.cell? ⟨g8, 0, none⟩ = some (.string F) ∧ W.cell? ⟨g8, 1, none⟩ = some (.string V))
          (first | go_keep | exact KC.out _ K9d.out | exact KC.out _ K5.out)
          (first
            | (go_at_call 17; refine (LO.out _).mono ?_; rintro e w10 ⟨rfl, b10⟩; have K5 := Lib.hid (K9d.out.below b10 K9d.out.lt); have O5 := Lib.hid (row_next O9d.out b10); have B5 := Lib.hid (B9d.out.trans (b10.mono B9d.out.size)))
            | (refine step_append_c (by rfl) _ _ 40 (by rfl) w8.heap.size tF i0 _ 2 32 Tryd.underlying40 hi hz0 hz1 hz2 rfl (by decide) O5.out (by rfl) #[.string G, .string V] rfl (by intro u hu; simp only [List.mem_cons, List.not_mem_nil, or_false] at hu; rcases hu with rfl | rfl <;> rfl) (by rfl) (by rfl) (by unfold maxLen; omega) (by omega) B5.out.size ?_; intro v11 w11 hown11 b11 k11; have K5 : Hid (Blk w11 g8 tF #[.string F, .string V]) := (k11 g8 K5.out.lt NE.out).trans K5.out; have B5 := Lib.hid (B5.out.trans b11)))
        all_goals (try (exfalso; omega))
        all_goals
          have O11 : Hid (w11.ownsRow w8.heap.size tF 2 v11 (fewL (l.take (k + 1))).length (rowFd (fewL (l.take (k + 1))))) := by
            have h := rowFd_snoc acc (lower fn, fv)
            simp only at h
            rw [GF.out.1, GF.out.2] at h
            unfold Hid; rw [LEN.out, HT3.out, h]; exact hown11
          clear hown11 b11 k11 K5 K9d O9d B9d b10 O5 KC x0 x1 K9
          first | go_wp2_with fail | skip
          go_roundw
        case rel => exact ⟨k + 1, by omega, by go_num, O11, B5⟩
        case measure => simp [intOf] <;> omega
      | false =>
        have HT2 := HT.out
        rw [if_neg (by rw [hm]; decide)] at HT2
        have O11 : Hid (w9.ownsRow w8.heap.size tF 2 (.slice so acc.length co) (fewL (l.take (k + 1))).length (rowFd (fewL (l.take (k + 1))))) := by
          unfold Hid; rw [HT2]; exact O9.out
        clear HT HT2 hm O9 K9
        go_wp2_with fail
        go_roundw
        case rel => exact ⟨k + 1, by omega, by go_num, O11, B9⟩
        case measure => simp [intOf] <;> omega
    · obtain rfl : k = l.length := by omega
      rw [List.take_length] at hO ⊢
      have AQ := Lib.hid (A8.out.next hB.out)
      have FQ := fd_of_row hO.out
      have hfs := Nat.le_trans (few_sum l) HL.out
      have DF := Lib.hid (DE.out _ wq AQ.out.env (fewL l) FQ hfs)
      rw [NF.out] at DF
      have NN2 : Hid (n ≠ 0 → 0 < (fewL l).length) := fun h => by
        cases hf : fewL l with
        | nil => exact absurd (NN.out hf) h
        | cons a r => simp
      obtain ⟨N, hN⟩ := name_it (fewL l).length
      rw [hN.out] at DF NN2 ⊢
      obtain ⟨x0, x1, x2, y0, y1, y2, y3, y4, y5⟩ := CA.out wq AQ.out
      clear hO FQ hfs NN NF hN DE HFD HM8
      have d3 : Hid (∀ a : Int, (a != a) = false) := fun a => by simp
      have n3 := d3.out n
      rcases N3.out with h0 | h0 | h0
      · subst h0
        go_wp2_with fail
        all_goals (try (exfalso; omega))
        refine DF.out.mono ?_; rintro e w9 ⟨rfl, b9⟩
        have A9 := Lib.hid (AQ.out.next b9)
        clear b9 DF x0 x1 x2 y0 y1 y2 y3 y4 y5
        by_cases hz : (0 : Int) < (N : Int)
        · go_wp2_with fail
          all_goals (try (exfalso; omega))
          go_ret
          exact ⟨rfl, by rw [← hm1.out] at A9; exact A9.out.below⟩
        · go_wp2_with fail
          all_goals (try (exfalso; omega))
          go_ret
          exact ⟨rfl, A9.out.below⟩
      · subst h0
        have hrt : rd = true := by
          cases rd
          · exact absurd rfl (NR.out rfl)
          · rfl
        subst hrt
        go_wp2_with fail
        all_goals (try (exfalso; omega))
        refine DF.out.mono ?_; rintro e w9 ⟨rfl, b9⟩
        have A9 := Lib.hid (AQ.out.next b9)
        clear b9 DF x0 x1 x2 y0 y1 y2 y3 y4 y5
        obtain ⟨x0, _⟩ := CA.out w9 A9.out
        cases hg : (M.toList == [71, 69, 84]) with
        | true =>
          go_wp2_with fail
          all_goals (try (exfalso; omega))
          go_ret
          exact ⟨rfl, A9.out.below⟩
        | false =>
          have hh : (M.toList == [72, 69, 65, 68]) = true := by
            have h := HR.out; rw [hg, Bool.false_or] at h; exact h.symm
          go_wp2_with fail
          all_goals (try (exfalso; omega))
          go_ret
          exact ⟨rfl, A9.out.below⟩
      · subst h0
        have hz := NN2.out (by decide)
        go_wp2_with fail
        all_goals (try (exfalso; omega))
        refine DF.out.mono ?_; rintro e w9 ⟨rfl, b9⟩
        have A9 := Lib.hid (AQ.out.next b9)
        clear b9 DF x0 x1 x2 y0 y1 y2 y3 y4 y5
        have hz2 : (0 : Int) < (N : Int) := by omega
        go_wp2_with fail
        all_goals (try (exfalso; omega))
        go_ret
        exact ⟨rfl, A9.out.below⟩
end Go.Proofs.YtjalfddedikibaaDoor
