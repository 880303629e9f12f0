/- LedgerMemory: the walk of the law. -/
import Derived.Test.YtfgaiopkclogmaaGreatDoorLedgMbJ
import Derived.Deep.RegionHeld3
import Derived.BigRegion
namespace Go.Proofs.YtfgaiopkclogmaaGreatDoor
open Go Go.RowKit Go.MuLone
set_option maxHeartbeats 16000000

theorem conv_mark (w : World) (m : Nat) (hm : m < 3) : (convert 59 9 (.slice (some ⟨w.heap.size, 0, none⟩) 1 1)).run Tryz.prog ((w.alloc (.cells #[.int .u8 (48 + (m : Int))] 5)).drew) = .ok (mkT m) ((w.alloc (.cells #[.int .u8 (48 + (m : Int))] 5)).drew) := by
  have h8 : ((UInt8.ofNat (48 + m)).toNat : Int) = 48 + (m : Int) := by rw [UInt8.toNat_ofNat']; omega
  refine run_convert_bytes_back _ 59 9 5 ⟨w.heap.size, 0, none⟩ 1 [UInt8.ofNat (48 + m)] Tryz.underlying59 Tryz.underlying5 Tryz.underlying9 fun j hj => ?_
  obtain rfl : j = 0 := by simp at hj; omega
  show _ = some (Value.int .u8 ((UInt8.ofNat (48 + m)).toNat : Int))
  rw [h8]
  exact World.cell?_alloc_mark w #[.int .u8 (48 + (m : Int))] 5 (0, 0) 0
theorem lines_same (l : List En) : linesL l = strsT (l.map printL) := lines_strs l
set_option maxRecDepth 100000 in
theorem lawMemory_any (v1 : Value) (one : List En) (n : Int) (w : World) (hZ : EnvZ w) (h1 : EnSl w v1 one) (hi1 : ∀ e ∈ one, inE e) (hl1 : one.length ≤ 200000) :
    Calls Tryz.prog 5 #[v1, .int .i64 n] w fun e w' => e = .returned (.bool true) ∧ Below w.heap.size w w' := by
  obtain ⟨p1, cap1, rfl, hc1⟩ := h1
  have HZ := Lib.hid hZ
  have HC1 := Lib.hid hc1
  have HI1 := Lib.hid hi1
  have HL1 := Lib.hid hl1
  have hn1 : one.length ≤ 1073741824 := by omega
  have H5 := Lib.hid hZ.l.env.n
  obtain ⟨i1, hi1', hy0, hy1, hy2⟩ := info_parts infoRowS
  obtain ⟨i2, hi2', hx0, hx1, hx2⟩ := info_parts infoRowY
  obtain ⟨i3, hi3', hs0, hs1, hs2⟩ := info_parts infoStr
  obtain ⟨i4, hi4', ht0, ht1, ht2⟩ := info_parts infoTl
  clear hZ hc1 hi1 hl1
  go_enter Tryz.func5, Tryz.ntmps5
  go_wp2_with fail
  refine (newBook_any w H5.out).mono ?_; rintro x w1 ⟨rfl, hA, b1⟩
  have A1 := Lib.hid hA
  have B1 := Lib.hid b1
  obtain ⟨b, hb⟩ := name_it w.heap.size
  rw [hb.out] at A1
  have GB : Hid (w.heap.size ≤ b) := by unfold Hid; rw [hb.out]; exact Nat.le_refl _
  rw [show (Value.pointer (some ⟨w.heap.size, 0, none⟩)) = Value.pointer (some ⟨b, 0, none⟩) by rw [hb.out]]
  clear hA b1 hb
  go_wp2_with fail
  refine (awake_any w1 (HZ.out.next B1.out).l).mono ?_; rintro x w3 ⟨rfl, b3⟩
  have T0 := Lib.hid (OneSt.first (A1.out.next b3) (B1.out.trans (b3.mono B1.out.size)) GB.out)
  clear b3 A1 B1 GB
  go_wp2_with fail
  go_loopw [6, 7] (fun lv i wr => ∃ (k : Nat) (vb : Value) (gl cl : Nat), k ≤ one.length ∧ i = .int .i64 k ∧ lv = .slice (some ⟨gl, 0, none⟩) (accL (one.take k)).length cl ∧
      Hid (OneSt w wr b vb (accL (one.take k)) gl cl (accL (one.take k)))) (fun _ i _ => one.length - (intOf i).toNat)
  case atStart => exact ⟨0, _, _, _, Nat.zero_le _, rfl, rfl, T0⟩
  clear T0
  case round =>
    obtain ⟨k, vb, gl, cl, hk, rfl, rfl, hT⟩ := hrel
    obtain ⟨wq, hwq⟩ : ∃ wq, wq = wr := ⟨wr, rfl⟩
    subst hwq
    have HO1 := Lib.hid (accL_ok (xs := one.take k) (fun e he => (HI1.out e (List.mem_of_mem_take he)).ints))
    have HN1 : Hid ((accL (one.take k)).length ≤ 200000) := by have h1 := accL_len (one.take k); have h3 := List.length_take_le' k one; have h4 := HL1.out; unfold Hid; omega
    by_cases hk1 : k < one.length
    · have q0 : (0 : Int) ≤ (k : Int) := by omega
      obtain ⟨b1, o1, rfl, hb1, hcell1⟩ := HC1.out k hk1
      have CK1' := Lib.hid hcell1
      have HB1 := Lib.hid hb1
      have HE1 := Lib.hid (HI1.out one[k] (List.getElem_mem hk1))
      have TK1 := Lib.hid (accL_take one k hk1)
      obtain ⟨e, he1⟩ := name_it one[k]
      rw [he1.out] at CK1' HE1 TK1
      clear he1 hb1 hcell1
      have CKe : Hid (∀ W, Below w.heap.size w W → W.cell? ⟨b1, o1 + k * 8, none⟩ = some (.string (bs e.name)) ∧ W.cell? ⟨b1, o1 + k * 8 + 1, none⟩ = some (.int .i64 e.conn) ∧ W.cell? ⟨b1, o1 + k * 8 + 2, none⟩ = some (.int .i64 e.numb) ∧ W.cell? ⟨b1, o1 + k * 8 + 3, none⟩ = some (.string (bs e.meth)) ∧ W.cell? ⟨b1, o1 + k * 8 + 4, none⟩ = some (.string (bs e.tgt)) ∧ W.cell? ⟨b1, o1 + k * 8 + 5, none⟩ = some (.int .i64 e.stat) ∧ W.cell? ⟨b1, o1 + k * 8 + 6, none⟩ = some (.int .i64 e.byts) ∧ W.cell? ⟨b1, o1 + k * 8 + 7, none⟩ = some (.int .i64 e.tick)) := by
        intro W hW
        have hq : ∀ i, i < 8 → W.cell? ⟨b1, o1 + k * 8 + i, none⟩ = (cellsE e)[i]? := fun i hi => (hW.cell (p := ⟨b1, o1 + k * 8 + i, none⟩) HB1.out).trans (CK1'.out i hi)
        exact ⟨hq 0 (by decide), hq 1 (by decide), hq 2 (by decide), hq 3 (by decide), hq 4 (by decide), hq 5 (by decide), hq 6 (by decide), hq 7 (by decide)⟩
      have q1 : (k : Int) < (one.length : Int) := by omega
      have hd1 : decide ((k : Int) < (one.length : Int)) = true := decide_eq_true q1
      have TD := Lib.hid (hT.out.next (Below.refl _ _).drew)
      have ADD := Lib.hid (add_any b vb _ e _ (HZ.out.next TD.out.below).l.env TD.out.A (by have := HN1.out; omega) HE1.out.n1 HE1.out.n2 HE1.out.n3)
      unfold visE at ADD
      obtain ⟨x0, x1, x2, x3, x4, x5, x6, x7⟩ := CKe.out _ hT.out.below
      clear hi1' hy0 hy1 hy2 hi2' hx0 hx1 hx2 hi3' hs0 hs1 hs2 hi4' ht0 ht1 ht2
      go_wp2_with fail
      go_region_held3 (fun W => W.cell? ⟨b1, o1 + k * 8, none⟩ = some (.string (bs e.name)) ∧ W.cell? ⟨b1, o1 + k * 8 + 1, none⟩ = some (.int .i64 e.conn) ∧ W.cell? ⟨b1, o1 + k * 8 + 2, none⟩ = some (.int .i64 e.numb) ∧ W.cell? ⟨b1, o1 + k * 8 + 3, none⟩ = some (.string (bs e.meth)) ∧ W.cell? ⟨b1, o1 + k * 8 + 4, none⟩ = some (.string (bs e.tgt)) ∧ W.cell? ⟨b1, o1 + k * 8 + 5, none⟩ = some (.int .i64 e.stat) ∧ W.cell? ⟨b1, o1 + k * 8 + 6, none⟩ = some (.int .i64 e.byts) ∧ W.cell? ⟨b1, o1 + k * 8 + 7, none⟩ = some (.int .i64 e.tick)) (first | exact CKe.out _ T1.out.below | go_keep)
        (first | (go_at_call 11; refine ADD.out.mono ?_; rintro x w5 ⟨rfl, hadd⟩; obtain ⟨va', T1'⟩ := TD.out.add hadd; have T1 := Lib.hid T1'))
      clear x0 x1 x2 x3 x4 x5 x6 x7
      clear TD ADD hT
      obtain ⟨x0, x1, x2, x3, x4, x5, x6, x7⟩ := CKe.out _ T1.out.below
      have GV := Lib.hid (given_any e w5)
      unfold encE at GV
      go_wp2_with fail
      refine GV.out.mono ?_; rintro x w6 ⟨rfl, b6⟩
      have T2 := Lib.hid (T1.out.next b6)
      clear b6 T1 GV x0 x1 x2 x3 x4 x5 x6 x7
      have RD := Lib.hid (radd_any gl cl _ e w.heap.size w6 T2.out.ra T2.out.below.size (by have := HN1.out; omega) HE1.out.n1 HE1.out.n2 HE1.out.n3)
      unfold encE at RD
      go_wp2_with fail
      refine RD.out.mono ?_; rintro x w7 ⟨gl', cl', rfl, hown, hb7, hg7⟩
      have T3 := Lib.hid (T2.out.row hown hb7 hg7)
      clear hown hb7 hg7 T2 RD
      rw [← TK1.out] at T3 ⊢
      go_wp2_with fail
      go_roundw
      case rel => exact ⟨k + 1, _, _, _, by omega, by go_num, rfl, T3⟩
      case measure => simp [intOf] <;> omega
    · obtain rfl : k = one.length := by omega
      rw [List.take_length] at hT HO1 HN1 ⊢
      obtain ⟨L, hL⟩ := name_it (accL one)
      rw [hL.out] at hT HO1 HN1 ⊢
      have LI := Lib.hid (fun W (hW : Below wq.heap.size wq W) => lines_ent (.pointer (some ⟨b, 0, none⟩)) L W (HZ.out.next (hT.out.next hW).below).l (ent_book (hT.out.next hW).A) HO1.out (by have := HN1.out; omega))
      have TO := Lib.hid (fun W (hW : Below wq.heap.size wq W) => top_any (.pointer (some ⟨b, 0, none⟩)) L n W (HZ.out.next (hT.out.next hW).below) (ent_book (hT.out.next hW).A) HO1.out (by have := HN1.out; omega))
      have LD := Lib.hid (fun W (hW : Below wq.heap.size wq W) => llines_any (.slice (some ⟨gl, 0, none⟩) L.length cl) L w.heap.size W (hT.out.next hW).ra HO1.out (by have := HN1.out; omega))
      have RT := Lib.hid (fun W (hW : Below wq.heap.size wq W) => rtop_any (.slice (some ⟨gl, 0, none⟩) L.length cl) L n w.heap.size W (hT.out.next hW).ra HO1.out (by have := HN1.out; omega))
      have HH := Lib.hid (fun W (hW : Below wq.heap.size wq W) => holds_any b vb L (.slice (some ⟨gl, 0, none⟩) L.length cl) w.heap.size W (HZ.out.next (hT.out.next hW).below) (hT.out.next hW).A (hT.out.next hW).ra HO1.out)
      have DQ := Lib.hid hT.out.below
      have HNT : Hid ((topL L n).length ≤ 200000) := by
        have h1 : (topL L n).length ≤ (srtT (cntF (pathsL L))).length := by unfold topL topC; rw [List.length_take]; exact Nat.min_le_right _ _
        have h2 := srtT_len (cntF (pathsL L))
        have h3 := cntF_len (pathsL L)
        have h4 : (pathsL L).length = L.length := by unfold pathsL; rw [List.length_map]
        have h5 := HN1.out
        unfold Hid; omega
      obtain ⟨TP, hTP⟩ := name_it (topL L n)
      rw [hTP.out] at TO RT HNT
      have hln : L.length ≤ 200000 := HN1.out
      have htn : TP.length ≤ 200000 := HNT.out
      have HB := Lib.hid (show wq.heap.size ≤ wq.heap.size from Nat.le_refl _)
      obtain ⟨it0, hM0, h80, h90⟩ := MSt.first wq (fun b => if b then TP.length else L.length) (fun b _ => if b then rowT TP else linesL L)
      obtain ⟨N, hN⟩ := name_it (fun b : Bool => if b then TP.length else L.length)
      obtain ⟨C0, hC0⟩ := name_it (fun (b : Bool) (_ : Nat) => if b then rowT TP else linesL L)
      rw [hN.out, hC0.out] at hM0
      have NF : Hid (N false = L.length) := by rw [← hN.out]; rfl
      have NT : Hid (N true = TP.length) := by rw [← hN.out]; rfl
      have CF : Hid (∀ k, C0 false k = linesL L) := fun k => by rw [← hC0.out]; rfl
      have CT : Hid (∀ k, C0 true k = rowT TP) := fun k => by rw [← hC0.out]; rfl
      have M0 := Lib.hid hM0
      have V80 := Lib.hid h80
      have V90 := Lib.hid h90
      have z1 : (wq.alloc (.cells #[] 43)).heap.size = wq.heap.size + 1 := Array.size_push ..
      have D0 : Hid (Below wq.heap.size wq ((wq.alloc (.cells #[] 43)).alloc (.cells #[] 53))) := ((Below.refl _ _).alloc (Nat.le_refl _) _).alloc (by rw [z1]; omega) _
      clear hN hC0 hM0 h80 h90 z1 hTP hL hT HC1 HI1 HO1 HN1 HNT HL1
      have hd1 : decide ((one.length : Int) < (one.length : Int)) = false := decide_eq_false (by omega)
      go_wp2_with fail
      go_loopw [8, 9, 10, 11, 12] (fun V8 V9 i _ _ wr => ∃ (k : Nat) (it : Ix → Item) (g8 c8 g9 c9 : Nat), k ≤ 3 ∧ i = .int .i64 k ∧ V8 = .slice (some ⟨g8, 0, none⟩) k c8 ∧ V9 = .slice (some ⟨g9, 0, none⟩) k c9 ∧
          Hid ((it (false, 0)).v = .slice (some ⟨g8, 0, none⟩) k c8) ∧ Hid ((it (true, 0)).v = .slice (some ⟨g9, 0, none⟩) k c9) ∧ Hid (MSt wr wq.heap.size (fun _ => k) (fun _ => k) N C0 it) ∧ Hid (Below wq.heap.size wq wr)) (fun _ _ i _ _ _ => 3 - (intOf i).toNat)
      case atStart => exact ⟨0, it0, _, _, _, _, by omega, rfl, rfl, rfl, V80, V90, M0, D0⟩
      clear M0 V80 V90 D0
      case round =>
        obtain ⟨k, it, g8, c8, g9, c9, hk, rfl, rfl, rfl, hv8, hv9, hM, hD⟩ := hrel
        obtain ⟨wp, hwp⟩ : ∃ wp, wp = wr := ⟨wr, rfl⟩
        subst hwp
        by_cases hlt : k < 3
        · go_wp2_with fail
          refine (LI.out wp hD.out).mono ?_; rintro x w1 ⟨⟨x1, rfl, hx⟩, b1⟩
          obtain ⟨xa, xc, hx1⟩ := row_slice hx
          subst hx1
          have X1 := Lib.hid hx
          have B1 := Lib.hid b1
          have D1 := Lib.hid (hD.out.trans (b1.mono hD.out.size))
          clear hx b1
          go_wp2_with fail
          refine (TO.out w1 D1.out).mono ?_; rintro x w2 ⟨⟨y1, rfl, hy⟩, b2⟩
          obtain ⟨ya, yc, hy1⟩ := row_slice hy
          subst hy1
          obtain ⟨it2, hM2, e8, e9, ex, ey⟩ := hM.out.two hD.out.size B1.out b2 (x := .slice xa L.length xc) (y := .slice ya TP.length yc) (by rw [NF.out, CF.out]; exact X1.out) (by rw [NT.out, CT.out]; exact hy)
          have M2 := Lib.hid hM2
          have E8 := Lib.hid (e8.trans hv8.out)
          have E9 := Lib.hid (e9.trans hv9.out)
          have EX := Lib.hid ex
          have EY := Lib.hid ey
          have X2 := Lib.hid (row_kept X1.out (fun g hg => b2.block g (World.ownsRow.lt X1.out g hg).2))
          have Y2 := Lib.hid hy
          have D2 := Lib.hid (D1.out.trans (b2.mono D1.out.size))
          clear hy b2 hM2 e8 e9 ex ey hM hv8 hv9 X1 B1 D1
          go_wp2_with fail
          refine (LD.out w2 D2.out).mono ?_; rintro x w3 ⟨⟨v3, rfl, h3⟩, b3⟩
          have M3 := Lib.hid (M2.out.next b3)
          have X3 := Lib.hid (row_kept X2.out (fun g hg => b3.block g (World.ownsRow.lt X2.out g hg).2))
          have Y3 := Lib.hid (row_kept Y2.out (fun g hg => b3.block g (World.ownsRow.lt Y2.out g hg).2))
          have L3 := Lib.hid h3
          have D3 := Lib.hid (D2.out.trans (b3.mono D2.out.size))
          clear h3 b3 M2 X2 Y2 D2
          go_wp2_with fail
          refine (lsame_any _ v3 _ _ (L.map printL) w3 (by rw [List.length_map, ← lines_strs]; exact X3.out) (by rw [List.length_map, ← lines_strs]; exact L3.out) (by rw [List.length_map]; omega)).mono ?_; rintro x w4 ⟨rfl, b4⟩
          have M4 := Lib.hid (M3.out.next b4)
          have Y4 := Lib.hid (row_kept Y3.out (fun g hg => b4.block g (World.ownsRow.lt Y3.out g hg).2))
          have D4 := Lib.hid (D3.out.trans (b4.mono D3.out.size))
          clear b4 M3 X3 Y3 L3 D3
          go_wp2_with fail
          refine (RT.out w4 D4.out).mono ?_; rintro x w5 ⟨⟨v5, rfl, h5⟩, b5⟩
          have M5 := Lib.hid (M4.out.next b5)
          have Y5 := Lib.hid (row_kept Y4.out (fun g hg => b5.block g (World.ownsRow.lt Y4.out g hg).2))
          have L5 := Lib.hid h5
          have D5 := Lib.hid (D4.out.trans (b5.mono D4.out.size))
          clear h5 b5 M4 Y4 D4
          go_wp2_with fail
          refine (ltallied_any _ v5 _ _ TP w5 Y5.out L5.out (by omega)).mono ?_; rintro x w6 ⟨rfl, b6⟩
          have M6 := Lib.hid (M5.out.next b6)
          have D6 := Lib.hid (D5.out.trans (b6.mono D5.out.size))
          clear b6 M5 Y5 L5 D5
          have S6 : Hid (w6.ownsRow wq.heap.size 43 1 (.slice (some ⟨g8, 0, none⟩) k c8) k (it2 (false, 0)).xs) := by
            have := M6.out.spine false
            rw [E8.out] at this
            exact this
          go_wp2_with (at_builtin; refine appendK rfl _ _ 50 rfl wq.heap.size 43 i1 (.slice none 0 0) 1 24 Tryz.underlying50 hi1' hy0 hy1 hy2 rfl (by decide) S6.out rfl #[.slice xa L.length xc] rfl (by intro u hu; simp only [List.mem_cons, List.not_mem_nil, or_false] at hu; rcases hu with rfl; rfl) rfl rfl ?_ ?_ ?_ ?_)
          · unfold maxLen; omega
          · omega
          · exact D6.out.size
          intro g7 c7 w7 hown7 hgrow7 hat7 hkeep7 b7
          have za : (w6.alloc (.cells #[.slice xa L.length xc] 43)).heap.size = w6.heap.size + 1 := Array.size_push ..
          obtain ⟨it3, hM3, f8, f9, fy⟩ := M6.out.moreF ((Below.refl _ _).alloc (Nat.le_refl _) _) E8.out EX.out hown7 hgrow7 (by rw [za]; exact hat7) hkeep7
          have M7 := Lib.hid hM3
          have F8 := Lib.hid f8
          have F9 := Lib.hid (f9.trans E9.out)
          have FY := Lib.hid (fy.trans EY.out)
          have D7 := Lib.hid (D6.out.trans b7)
          clear hown7 hgrow7 hat7 hkeep7 b7 hM3 za f8 f9 fy M6 S6 E8 E9 EX EY D6
          have S7 : Hid (w7.ownsRow wq.heap.size 53 1 (.slice (some ⟨g9, 0, none⟩) k c9) k (it3 (true, 0)).xs) := by
            have := M7.out.spine true
            rw [F9.out] at this
            exact this
          go_wp2_with (at_builtin; refine appendK rfl _ _ 51 rfl wq.heap.size 53 i2 (.slice none 0 0) 1 24 Tryz.underlying51 hi2' hx0 hx1 hx2 rfl (by decide) S7.out rfl #[.slice ya TP.length yc] rfl (by intro u hu; simp only [List.mem_cons, List.not_mem_nil, or_false] at hu; rcases hu with rfl; rfl) rfl rfl ?_ ?_ ?_ ?_)
          · unfold maxLen; omega
          · omega
          · exact D7.out.size
          intro g8' c8' w8 hown8 hgrow8 hat8 hkeep8 b8
          have zb : (w7.alloc (.cells #[.slice ya TP.length yc] 53)).heap.size = w7.heap.size + 1 := Array.size_push ..
          obtain ⟨it4, hM4, f8, f9⟩ := M7.out.moreT ((Below.refl _ _).alloc (Nat.le_refl _) _) F9.out FY.out hown8 hgrow8 (by rw [zb]; exact hat8) hkeep8
          have M8 := Lib.hid hM4
          have G8 := Lib.hid (f9.trans F8.out)
          have G9 := Lib.hid f8
          have D8 := Lib.hid (D7.out.trans b8)
          clear hown8 hgrow8 hat8 hkeep8 b8 hM4 zb f8 f9 M7 S7 F8 F9 FY D7
          go_wp2_with fail
          go_roundw
          case rel => exact ⟨k + 1, it4, _, _, _, _, by omega, by go_num, rfl, rfl, G8, G9, M8, D8⟩
          case measure => simp [intOf] <;> omega
        · have M3 : Hid (MSt wp wq.heap.size (fun _ => 3) (fun _ => 3) N C0 it) := by
            have hk3 : k = 3 := by omega
            rw [← hk3]; exact hM.out
          have hnf : N false ≤ 200000 := by rw [NF.out]; exact hln
          have hnt : N true ≤ 200000 := by rw [NT.out]; exact htn
          have MK0 : Hid (MkP N C0 0 0 0) := MkP.first
          clear hM LI LD CF CT
          go_wp2_with fail
          go_loopw [13, 14, 15] (fun i _ _ wr => ∃ (m : Nat) (it : Ix → Item) (C : Bool → Nat → List Value), m ≤ 3 ∧ i = .int .i64 m ∧ Hid ((it (false, 0)).v = .slice (some ⟨g8, 0, none⟩) k c8) ∧ Hid ((it (true, 0)).v = .slice (some ⟨g9, 0, none⟩) k c9) ∧
              Hid (MSt wr wq.heap.size (fun _ => 3) (fun _ => 3) N C it) ∧ Hid (MkP N C m 0 0) ∧ Hid (Below wq.heap.size wq wr)) (fun i _ _ _ => 3 - (intOf i).toNat)
          case atStart => exact ⟨0, it, C0, by omega, rfl, hv8, hv9, M3, MK0, hD⟩
          clear M3 MK0 hD hv8 hv9 it
          case round =>
            obtain ⟨m, it, C, hm, rfl, hv8, hv9, hM, hK, hD⟩ := hrel
            obtain ⟨wp, hwp⟩ : ∃ wp, wp = wr := ⟨wr, rfl⟩
            subst hwp
            by_cases hm3 : m < 3
            · have m0 : (0 : Int) ≤ (m : Int) := by omega
              have m1 : (m : Int) < (k : Int) := by omega
              go_wp2_with fail
              go_loopw [14] (fun j wr => ∃ (q : Nat) (it : Ix → Item) (C : Bool → Nat → List Value), q ≤ N false ∧ j = .int .i64 q ∧ Hid ((it (false, 0)).v = .slice (some ⟨g8, 0, none⟩) k c8) ∧ Hid ((it (true, 0)).v = .slice (some ⟨g9, 0, none⟩) k c9) ∧
                  Hid (MSt wr wq.heap.size (fun _ => 3) (fun _ => 3) N C it) ∧ Hid (MkP N C m q 0) ∧ Hid (Below wq.heap.size wq wr)) (fun j _ => N false - (intOf j).toNat)
              case atStart => exact ⟨0, it, C, Nat.zero_le _, rfl, hv8, hv9, hM, hK, hD⟩
              clear hM hK hD hv8 hv9 it C
              case round =>
                obtain ⟨q, it, C, hq, rfl, hv8, hv9, hM, hK, hD⟩ := hrel
                obtain ⟨wi, hwi⟩ : ∃ wi, wi = wr := ⟨wr, rfl⟩
                subst hwi
                obtain ⟨a, c, hcell, hrow⟩ := hM.out.at_ false hm3 hm3 hv8.out
                have R := hM.out.rowAt false hm3
                rw [hrow] at R
                by_cases hq2 : q < N false
                · have q0 : (0 : Int) ≤ (q : Int) := by omega
                  have q1 : (q : Int) < (N false : Int) := by omega
                  obtain ⟨gk, rfl⟩ : ∃ g, a = some ⟨g, 0, none⟩ := by
                    rcases R.2 with ⟨_, h0⟩ | ⟨g, cap', cur, h, _⟩
                    · omega
                    · injection h with h _ _; exact ⟨g, h⟩
                  have hlen : (C false m).length = N false := by have := R.1; unfold sR at this; simpa using this
                  have cu : wi.cell? ⟨gk, q, none⟩ = some ((C false m)[q]'(by omega)) := by rw [World.ownsRow.cellAt R q (by unfold sR; simp; omega)]; exact List.getElem?_eq_getElem _
                  have fu : wi.frozen? ⟨gk, q, none⟩ = false := World.ownsRow.frozenAt R _
                  obtain ⟨u, hu⟩ := name_it ((C false m)[q]'(by omega))
                  rw [hu.out] at cu
                  have hgk := (World.ownsRow.lt R gk rfl)
                  obtain ⟨it', hM', hv'⟩ := hM.out.put1 false hm3 hrow q (mkT m)
                  have MKQ := Lib.hid (hK.out.putF (by omega))
                  have HV := Lib.hid hv'
                  obtain ⟨X, hX⟩ : ∃ X : ByteArray, mkT m = .string X := ⟨_, rfl⟩
                  have hcv := conv_mark wi m hm3
                  rw [hX] at hcv hM' MKQ
                  have hl8 : g8 < wi.heap.size := World.block_lt_of_cell? wi ⟨g8, m, none⟩ hcell
                  have hlk : gk < wi.heap.size := World.block_lt_of_cell? wi ⟨gk, q, none⟩ cu
                  have bA := (Below.refl wi.heap.size wi).alloc (Nat.le_refl _) (.cells #[.int .u8 (48 + (m : Int))] 5)
                  have na1 : (wi.alloc (.cells #[.int .u8 (48 + (m : Int))] 5)).cell? ⟨g8, m, none⟩ = _ := (bA.cell (p := ⟨g8, m, none⟩) hl8).trans hcell
                  have na2 : (wi.alloc (.cells #[.int .u8 (48 + (m : Int))] 5)).cell? ⟨gk, q, none⟩ = _ := (bA.cell (p := ⟨gk, q, none⟩) hlk).trans cu
                  have na3 : (wi.alloc (.cells #[.int .u8 (48 + (m : Int))] 5)).frozen? ⟨gk, q, none⟩ = false := (bA.frozen (p := ⟨gk, q, none⟩) hlk).trans fu
                  have M9 := Lib.hid (hM'.next ((Below.refl _ _).alloc (Nat.le_refl _) (.cells #[.int .u8 (48 + (m : Int))] 5)).drew)
                  have D8 := hD.out.setCell (p := ⟨gk, q, none⟩) hgk.1 (.string X)
                  have D9 := Lib.hid (D8.alloc D8.size (.cells #[.int .u8 (48 + (m : Int))] 5)).drew
                  clear bA hX hM' hv' D8
                  clear hu R
                  go_wp2_with fail
                  go_region
                  go_wp2_with fail
                  go_roundw
                  case rel => exact ⟨q + 1, it', _, by omega, by go_num, (HV.out _).trans hv8.out, (HV.out _).trans hv9.out, M9, MKQ, D9⟩
                  case measure => simp [intOf] <;> omega
                · obtain rfl : q = N false := by omega
                  have hd : decide (N false < N false) = false := decide_eq_false (by omega)
                  clear R
                  go_wp2_with fail
                  all_goals (try (exfalso; omega))
                  clear hcell hrow
                  go_loopw [15] (fun j wr => ∃ (q : Nat) (it : Ix → Item) (C : Bool → Nat → List Value), q ≤ N true ∧ j = .int .i64 q ∧ Hid ((it (false, 0)).v = .slice (some ⟨g8, 0, none⟩) k c8) ∧ Hid ((it (true, 0)).v = .slice (some ⟨g9, 0, none⟩) k c9) ∧
                      Hid (MSt wr wq.heap.size (fun _ => 3) (fun _ => 3) N C it) ∧ Hid (MkP N C m (N false) q) ∧ Hid (Below wq.heap.size wq wr)) (fun j _ => N true - (intOf j).toNat)
                  case atStart => exact ⟨0, it, C, Nat.zero_le _, rfl, hv8, hv9, hM, hK, hD⟩
                  clear hM hK hD hv8 hv9 it C
                  case round =>
                    obtain ⟨q, it, C, hq, rfl, hv8, hv9, hM, hK, hD⟩ := hrel
                    obtain ⟨wj, hwj⟩ : ∃ wj, wj = wr := ⟨wr, rfl⟩
                    subst hwj
                    obtain ⟨a, c, hcell, hrow⟩ := hM.out.at_ true hm3 hm3 hv9.out
                    have R := hM.out.rowAt true hm3
                    rw [hrow] at R
                    by_cases hq2 : q < N true
                    · have q0 : (0 : Int) ≤ (q : Int) := by omega
                      have q1 : (q : Int) < (N true : Int) := by omega
                      obtain ⟨gk, rfl⟩ : ∃ g, a = some ⟨g, 0, none⟩ := by
                        rcases R.2 with ⟨_, h0⟩ | ⟨g, cap', cur, h, _⟩
                        · omega
                        · injection h with h _ _; exact ⟨g, h⟩
                      have hlen : (C true m).length = N true * 2 := R.1
                      have cu : wj.cell? ⟨gk, q * 2, none⟩ = some ((C true m)[q * 2]'(by omega)) := by rw [World.ownsRow.cellAt R (q * 2) (by show q * 2 < N true * 2; omega)]; exact List.getElem?_eq_getElem _
                      have cv : wj.cell? ⟨gk, q * 2 + 1, none⟩ = some ((C true m)[q * 2 + 1]'(by omega)) := by rw [World.ownsRow.cellAt R (q * 2 + 1) (by show q * 2 + 1 < N true * 2; omega)]; exact List.getElem?_eq_getElem _
                      have fu : wj.frozen? ⟨gk, q * 2, none⟩ = false := World.ownsRow.frozenAt R _
                      have fv : wj.frozen? ⟨gk, q * 2 + 1, none⟩ = false := World.ownsRow.frozenAt R _
                      obtain ⟨u, hu⟩ := name_it ((C true m)[q * 2]'(by omega))
                      obtain ⟨v, hv⟩ := name_it ((C true m)[q * 2 + 1]'(by omega))
                      rw [hu.out] at cu
                      rw [hv.out] at cv
                      have hgk := (World.ownsRow.lt R gk rfl)
                      obtain ⟨it', hM', hv'⟩ := hM.out.put2 true hm3 hrow (q * 2) (.string ⟨#[]⟩) (q * 2 + 1) (.int .i64 (-1 - (m : Int)))
                      have MKQ := Lib.hid (hK.out.putT (by omega))
                      have HV := Lib.hid hv'
                      have M9 := Lib.hid hM'
                      have D9 := Lib.hid ((hD.out.setCell (p := ⟨gk, q * 2, none⟩) hgk.1 (.string ⟨#[]⟩)).setCell (p := ⟨gk, q * 2 + 1, none⟩) hgk.1 (.int .i64 (-1 - (m : Int))))
                      clear hM' hv' hu hv R
                      go_wp2_with fail
                      go_roundw
                      case rel => exact ⟨q + 1, it', _, by omega, by go_num, (HV.out _).trans hv8.out, (HV.out _).trans hv9.out, M9, MKQ, D9⟩
                      case measure => simp [intOf] <;> omega
                    · obtain rfl : q = N true := by omega
                      have hd2 : decide (N true < N true) = false := decide_eq_false (by omega)
                      have MKN := Lib.hid hK.out.next
                      clear R
                      go_wp2_with fail
                      all_goals (try (exfalso; omega))
                      go_roundw
                      case rel => exact ⟨m + 1, it, C, by omega, by go_num, hv8, hv9, hM, MKN, hD⟩
                      case measure => simp [intOf] <;> omega
            · have hmk : Hid ((∀ r, r < 3 → MkF r (C false r) (N false)) ∧ (∀ r, r < 3 → MkY r (C true r) (N true))) := ⟨fun r hr => hK.out.oldF r (by omega), fun r hr => hK.out.oldY r (by omega)⟩
              have G0 := Lib.hid hM.out.grow
              clear hM hK
              go_wp2_with fail
              clear hm hm3
              go_loopw [16, 17, 18, 19] (fun i _ _ _ wr => ∃ (m : Nat) (it' : Ix → Item), m ≤ 3 ∧ i = .int .i64 m ∧ Hid (MGt wr wq.heap.size N C it' it m) ∧ Hid (Below wq.heap.size wq wr)) (fun i _ _ _ _ => 3 - (intOf i).toNat)
              case atStart => exact ⟨0, it, by omega, rfl, G0, hD⟩
              clear G0 hD
              case round =>
                obtain ⟨m, it', hm, rfl, hG, hD⟩ := hrel
                obtain ⟨wi, hwi⟩ : ∃ wi, wi = wr := ⟨wr, rfl⟩
                subst hwi
                by_cases hm3 : m < 3
                · have m0 : (0 : Int) ≤ (m : Int) := by omega
                  have m1 : (m : Int) < (k : Int) := by omega
                  have hd3 : decide ((m : Int) < 3) = true := decide_eq_true (by omega)
                  obtain ⟨xa, xc, cx, rx, -⟩ := hG.out.at_ false hm3 hv8.out
                  obtain ⟨ya, yc, cy, ry, -⟩ := hG.out.at_ true hm3 hv9.out
                  have R0 := Lib.hid (hG.out.begin hm3)
                  have hfun : (fun b => (it (b, m + 1)).v) = fun b : Bool => if b then Value.slice ya (N true) yc else Value.slice xa (N false) xc := by
                    funext b; cases b
                    · exact rx
                    · exact ry
                  rw [hfun] at R0
                  clear hfun rx ry
                  go_wp2_with fail
                  go_quiet (fail)
                  have R1 := Lib.hid (R0.out.next (below_drewN (Below.refl _ _) nq))
                  have D1 := Lib.hid (below_drewN hD.out nq)
                  obtain ⟨wn, hwn⟩ := name_it (wi.drewN nq)
                  rw [hwn.out] at R1 D1 ⊢
                  clear cx cy R0 hwn
                  go_wp2_with fail
                  go_loopw [17, 18, 19] (fun g h j wr => ∃ (q : Nat) (it' : Ix → Item) (ga ha : Option Addr) (gc hc : Nat), q ≤ 20 ∧ j = .int .i64 q ∧ g = .slice ga (N false + q) gc ∧ h = .slice ha (N true + q) hc ∧
                      Hid (MGr wr wq.heap.size N C it' it m (fun _ => q) (fun b => if b then .slice ha (N true + q) hc else .slice ga (N false + q) gc)) ∧ Hid (Below wq.heap.size wq wr)) (fun _ _ j _ => 20 - (intOf j).toNat)
                  case atStart => exact ⟨0, it', xa, ya, xc, yc, by omega, rfl, rfl, rfl, R1, D1⟩
                  clear R1 D1 hG hD
                  case round =>
                    obtain ⟨q, it', ga, ha, gc, hc, hq, rfl, rfl, rfl, hR, hD⟩ := hrel
                    obtain ⟨wj, hwj⟩ : ∃ wj, wj = wr := ⟨wr, rfl⟩
                    subst hwj
                    by_cases hq2 : q < 20
                    · have OF : Hid (wj.ownsRow wq.heap.size 9 1 (.slice ga (N false + q) gc) (N false + q) (it' (false, m + 1)).xs) := hR.out.own false hm3
                      have hHB := HB.out
                      go_wp2_with (at_builtin; refine appendK rfl _ _ 43 rfl wq.heap.size 9 i3 (.string ⟨#[]⟩) 1 16 Tryz.underlying43 hi3' hs0 hs1 hs2 rfl (by decide) OF.out rfl #[.string ⟨#[103, 114, 111, 119, 110]⟩] rfl (by intro u hu; simp only [List.mem_cons, List.not_mem_nil, or_false] at hu; rcases hu with rfl; rfl) rfl rfl ?_ ?_ ?_ ?_)
                      · unfold maxLen; omega
                      · omega
                      · exact hD.out.size
                      intro g7 c7 w7 hown7 hgrow7 hat7 hkeep7 b7
                      have za : (wj.alloc (.cells #[.string ⟨#[103, 114, 111, 119, 110]⟩] 9)).heap.size = wj.heap.size + 1 := Array.size_push ..
                      obtain ⟨it2, hR2⟩ := hR.out.grow ((Below.refl _ _).alloc (Nat.le_refl _) _) false hm3 hown7 hgrow7 (by rw [za]; exact hat7) hkeep7
                      have R2 := Lib.hid hR2
                      have D2 := Lib.hid (hD.out.trans b7)
                      clear hown7 hgrow7 hat7 hkeep7 b7 hR2 za OF hR hD
                      have OT : Hid (w7.ownsRow wq.heap.size tTl 2 (.slice ha (N true + q) hc) (N true + q) (it2 (true, m + 1)).xs) := R2.out.own true hm3
                      go_wp2_with (at_builtin; refine appendK rfl _ _ 53 rfl wq.heap.size tTl i4 (.agg #[.string ⟨#[]⟩, .int .i64 0]) 2 24 Tryz.underlying53 hi4' ht0 ht1 ht2 rfl (by decide) OT.out rfl #[.string ⟨#[103, 114, 111, 119, 110]⟩, .int .i64 0] rfl (by intro u hu; simp only [List.mem_cons, List.not_mem_nil, or_false] at hu; rcases hu with rfl | rfl <;> rfl) rfl rfl ?_ ?_ ?_ ?_)
                      · unfold maxLen; omega
                      · omega
                      · exact D2.out.size
                      intro g8' c8' w8 hown8 hgrow8 hat8 hkeep8 b8
                      have zb : (w7.alloc (.cells #[.string ⟨#[103, 114, 111, 119, 110]⟩, .int .i64 0] tTl)).heap.size = w7.heap.size + 1 := Array.size_push ..
                      obtain ⟨it3, hR3⟩ := R2.out.grow ((Below.refl _ _).alloc (Nat.le_refl _) _) true hm3 hown8 hgrow8 (by rw [zb]; exact hat8) hkeep8
                      have hQ : updB (updB (fun _ => q) false (q + 1)) true (updB (fun _ => q) false (q + 1) true + 1) = fun _ => q + 1 := updB_both q (q + 1)
                      rw [hQ] at hR3
                      have hGf : (fun c : Bool => if c = true then (Value.slice (some ⟨g8', 0, none⟩) (N true + updB (fun _ => q) false (q + 1) true + 1) c8') else if c = false then Value.slice (some ⟨g7, 0, none⟩) (N false + q + 1) c7 else if c = true then Value.slice ha (N true + q) hc else Value.slice ga (N false + q) gc) = fun b : Bool => if b then .slice (some ⟨g8', 0, none⟩) (N true + (q + 1)) c8' else .slice (some ⟨g7, 0, none⟩) (N false + (q + 1)) c7 := by
                        funext c; cases c <;> rfl
                      have R3 : Hid (MGr w8 wq.heap.size N C it3 it m (fun _ => q + 1) (fun b => if b then .slice (some ⟨g8', 0, none⟩) (N true + (q + 1)) c8' else .slice (some ⟨g7, 0, none⟩) (N false + (q + 1)) c7)) := by
                        rw [← hGf]; exact hR3
                      have D3 := Lib.hid (D2.out.trans b8)
                      clear hown8 hgrow8 hat8 hkeep8 b8 hR3 hQ hGf zb OT R2 D2
                      go_wp2_with fail
                      go_roundw
                      case rel =>
                        have HZ9 : ∃ (q' : Nat) (it' : Ix → Item) (ga ha : Option Addr) (gc hc : Nat), q' ≤ 20 ∧ Value.int .i64 ((q : Int) + 1) = .int .i64 (q' : Int) ∧ Value.slice (some ⟨g7, 0, none⟩) (N false + q + 1) c7 = .slice ga (N false + q') gc ∧ Value.slice (some ⟨g8', 0, none⟩) (N true + q + 1) c8' = .slice ha (N true + q') hc ∧ Hid (MGr w8 wq.heap.size N C it' it m (fun _ => q') (fun b => if b then .slice ha (N true + q') hc else .slice ga (N false + q') gc)) ∧ Hid (Below wq.heap.size wq w8) := ⟨q + 1, it3, _, _, _, _, by omega, by go_num, rfl, rfl, R3, D3⟩
                        first | exact HZ9 | ((repeat apply Exists.intro); exact ⟨HZ9, rfl⟩)
                      case measure => simp [intOf] <;> omega
                    · have G9 := Lib.hid hR.out.done
                      have hd : decide (q < 20) = false := decide_eq_false hq2
                      clear hR
                      go_wp2_with fail
                      all_goals (try (exfalso; omega))
                      go_roundw
                      case rel => exact ⟨m + 1, it', by omega, by go_num, G9, hD⟩
                      case measure => simp [intOf] <;> omega
                · have hm3' : m = 3 := by omega
                  have GE : ∃ it'' : Ix → Item, Hid (MGt wi wq.heap.size N C it'' it 3) := ⟨it', hm3' ▸ hG.out⟩
                  obtain ⟨it'', G3⟩ := GE
                  clear hG
                  go_wp2_with fail
                  clear hm hm3 hm3' it'
                  go_loopw [20, 21, 22] (fun i _ _ wr => ∃ (m : Nat), m ≤ 3 ∧ i = .int .i64 m ∧ Hid (MGt wr wq.heap.size N C it'' it 3) ∧ Hid (Below wq.heap.size wq wr)) (fun i _ _ _ => 3 - (intOf i).toNat)
                  case atStart => exact ⟨0, by omega, rfl, G3, hD⟩
                  clear G3 hD
                  case round =>
                    obtain ⟨m, hm, rfl, hG, hD⟩ := hrel
                    obtain ⟨wj, hwj⟩ : ∃ wj, wj = wr := ⟨wr, rfl⟩
                    subst hwj
                    by_cases hm3 : m < 3
                    · have m0 : (0 : Int) ≤ (m : Int) := by omega
                      have m1 : (m : Int) < (k : Int) := by omega
                      have hd3 : decide ((m : Int) < 3) = true := decide_eq_true (by omega)
                      obtain ⟨X, hX⟩ : ∃ X : ByteArray, mkT m = .string X := ⟨_, rfl⟩
                      have HX := Lib.hid hX
                      clear hX
                      go_wp2_with fail
                      go_loopw [21] (fun j wr => ∃ (q : Nat), q ≤ N false ∧ j = .int .i64 q ∧ Hid (MGt wr wq.heap.size N C it'' it 3) ∧ Hid (Below wq.heap.size wq wr)) (fun j _ => N false - (intOf j).toNat)
                      case atStart => exact ⟨0, Nat.zero_le _, rfl, hG, hD⟩
                      clear hG hD
                      case round =>
                        obtain ⟨q, hq, rfl, hG, hD⟩ := hrel
                        obtain ⟨wi, hwi⟩ : ∃ wi, wi = wr := ⟨wr, rfl⟩
                        subst hwi
                        obtain ⟨xa, xc, cx, -, gx⟩ := hG.out.at_ false hm3 hv8.out
                        by_cases hq2 : q < N false
                        · have q0 : (0 : Int) ≤ (q : Int) := by omega
                          have q1 : (q : Int) < (N false : Int) := by omega
                          obtain ⟨gk, rfl, cu⟩ := gx q _ (hmk.out.1 m hm3 q hq2)
                          rw [HX.out] at cu
                          have hcv := conv_mark wi m hm3
                          rw [HX.out] at hcv
                          have hl8 : g8 < wi.heap.size := World.block_lt_of_cell? wi ⟨g8, m, none⟩ cx
                          have hlk : gk < wi.heap.size := World.block_lt_of_cell? wi ⟨gk, q, none⟩ cu
                          have bA := (Below.refl wi.heap.size wi).alloc (Nat.le_refl _) (.cells #[.int .u8 (48 + (m : Int))] 5)
                          have na1 : (wi.alloc (.cells #[.int .u8 (48 + (m : Int))] 5)).cell? ⟨g8, m, none⟩ = _ := (bA.cell (p := ⟨g8, m, none⟩) hl8).trans cx
                          have na2 : (wi.alloc (.cells #[.int .u8 (48 + (m : Int))] 5)).cell? ⟨gk, q, none⟩ = _ := (bA.cell (p := ⟨gk, q, none⟩) hlk).trans cu
                          have G9 := Lib.hid (hG.out.next bA.drew)
                          have D9 := Lib.hid (hD.out.alloc hD.out.size (.cells #[.int .u8 (48 + (m : Int))] 5)).drew
                          have hxx : (X.toList != X.toList) = false := by simp
                          clear bA gx
                          go_wp2_with fail
                          go_region
                          go_wp2_with fail
                          all_goals (try (exfalso; omega))
                          go_roundw
                          case rel => exact ⟨q + 1, by omega, by go_num, G9, D9⟩
                          case measure => simp [intOf] <;> omega
                        · obtain rfl : q = N false := by omega
                          have hd : decide (N false < N false) = false := decide_eq_false (by omega)
                          clear gx
                          go_wp2_with fail
                          all_goals (try (exfalso; omega))
                          clear cx
                          go_loopw [22] (fun j wr => ∃ (q : Nat), q ≤ N true ∧ j = .int .i64 q ∧ Hid (MGt wr wq.heap.size N C it'' it 3) ∧ Hid (Below wq.heap.size wq wr)) (fun j _ => N true - (intOf j).toNat)
                          case atStart => exact ⟨0, Nat.zero_le _, rfl, hG, hD⟩
                          clear hG hD
                          case round =>
                            obtain ⟨q, hq, rfl, hG, hD⟩ := hrel
                            obtain ⟨wh, hwh⟩ : ∃ wh, wh = wr := ⟨wr, rfl⟩
                            subst hwh
                            obtain ⟨ya, yc, cy, -, gy⟩ := hG.out.at_ true hm3 hv9.out
                            by_cases hq2 : q < N true
                            · have q0 : (0 : Int) ≤ (q : Int) := by omega
                              have q1 : (q : Int) < (N true : Int) := by omega
                              obtain ⟨gk, rfl, cu⟩ := gy _ _ (hmk.out.2 m hm3 q hq2).1
                              obtain ⟨gk', hgk', cv⟩ := gy _ _ (hmk.out.2 m hm3 q hq2).2
                              injection hgk' with hgk'
                              injection hgk' with hgk'
                              subst hgk'
                              have hne : ((-1 - (m : Int)) != (-1 - (m : Int))) = false := by simp
                              clear gy
                              go_wp2_with fail
                              all_goals (try (exfalso; omega))
                              go_roundw
                              case rel => exact ⟨q + 1, by omega, by go_num, hG, hD⟩
                              case measure => simp [intOf] <;> omega
                            · obtain rfl : q = N true := by omega
                              have hd2 : decide (N true < N true) = false := decide_eq_false (by omega)
                              clear gy
                              go_wp2_with fail
                              all_goals (try (exfalso; omega))
                              go_roundw
                              case rel => exact ⟨m + 1, by omega, by go_num, hG, hD⟩
                              case measure => simp [intOf] <;> omega
                    · clear hG
                      go_wp2_with fail
                      refine (HH.out _ hD.out).mono ?_; rintro x w1 ⟨rfl, b1⟩
                      have D1 := Lib.hid (hD.out.trans (b1.mono hD.out.size))
                      clear b1 hD
                      go_wp2_with fail
                      refine (TO.out w1 D1.out).mono ?_; rintro x w2 ⟨⟨y1, rfl, hy⟩, b2⟩
                      have Y2 := Lib.hid hy
                      have D2 := Lib.hid (D1.out.trans (b2.mono D1.out.size))
                      clear hy b2 D1
                      go_wp2_with fail
                      refine (RT.out w2 D2.out).mono ?_; rintro x w3 ⟨⟨v3, rfl, h3⟩, b3⟩
                      have Y3 := Lib.hid (row_kept Y2.out (fun g hg => b3.block g (World.ownsRow.lt Y2.out g hg).2))
                      have L3 := Lib.hid h3
                      have D3 := Lib.hid (D2.out.trans (b3.mono D2.out.size))
                      clear h3 b3 Y2 D2
                      go_wp2_with fail
                      refine (ltallied_any _ v3 _ _ TP w3 Y3.out L3.out (by omega)).mono ?_; rintro x w4 ⟨rfl, b4⟩
                      have D4 := Lib.hid (D3.out.trans (b4.mono D3.out.size))
                      have D5 := Lib.hid (DQ.out.trans (D4.out.mono DQ.out.size))
                      clear b4
                      go_wp2_with fail
                      go_ret
                      exact ⟨rfl, D5.out⟩
end Go.Proofs.YtfgaiopkclogmaaGreatDoor
