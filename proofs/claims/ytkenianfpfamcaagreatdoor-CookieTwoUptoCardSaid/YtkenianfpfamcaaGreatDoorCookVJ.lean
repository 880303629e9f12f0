/- Contract of cookie.ParseSet: what a server sets. -/
import Derived.Test.YtkenianfpfamcaaGreatDoorMj
namespace Go.Proofs.YtkenianfpfamcaaGreatDoor
open Go Go.RowKit Go.Maps Go.WideMaps
set_option maxHeartbeats 4000000

theorem EnvT.below {B : Nat} {w w' : World} (h : EnvT w) (hb : Below B w w') (hB : 9 ≤ B) : EnvT w' where
  n := Nat.le_trans h.n hb.size
  sg j hj := by rw [hb.cell (p := ⟨2, j, none⟩) (Nat.lt_of_lt_of_le (by show 2 < 9; decide) hB)]; exact h.sg j hj
theorem EnvS.below {B : Nat} {w w' : World} (h : EnvS w) (hb : Below B w w') (hB : 9 ≤ B) : EnvS w' where
  n := Nat.le_trans h.n hb.size
  pow := var?_below hb gPow (Nat.lt_of_lt_of_le (by decide) hB) h.pow
  week j hj := by rw [hb.cell (p := ⟨0, j, none⟩) (Nat.lt_of_lt_of_le (by show 0 < 9; decide) hB)]; exact h.week j hj
  mon j hj := by rw [hb.cell (p := ⟨1, j, none⟩) (Nat.lt_of_lt_of_le (by show 1 < 9; decide) hB)]; exact h.mon j hj
theorem EnvK.below {B : Nat} {w w' : World} (h : EnvK w) (hb : Below B w w') (hB : 9 ≤ B) : EnvK w' := by
  refine ⟨h.t.below hb hB, h.s.below hb hB, ?_⟩
  obtain ⟨m, hm⟩ := h.max
  exact ⟨m, by rw [hb.cell (p := ⟨3, 0, none⟩) (Nat.lt_of_lt_of_le (by show 3 < 9; decide) hB)]; exact hm⟩
abbrev tS : TypeId := 37
def strV (p : List UInt8) : Value := .string (bs p)
theorem splits_any (s : ByteArray) (w : World) (hE : EnvK w) (hs : s.size ≤ 1073741824) :
    Calls Tryz.prog 42 #[.string s, .string ⟨#[59]⟩] w fun e w' => e = .returned (.slice (some ⟨w.heap.size, 0, none⟩) (splitC 59 (L s)).length (splitC 59 (L s)).length) ∧ CellsAt w' w.heap.size ((splitC 59 (L s)).map strV) ∧ Below w.heap.size w w' := by
  obtain ⟨m, hm⟩ := hE.max
  refine (Tryz.strings_Split s ⟨#[59]⟩ m w (by omega) hm (by decide)).mono ?_
  rintro e w' ⟨rfl, rfl⟩
  rw [countB_C, splitB_C, List.map_map]
  exact ⟨rfl, CellsAt.first w ((splitC 59 (L s)).map strV) 9, below_put2⟩
def zS : SetC := freshC ([], [])
def setV (o : Option SetC) : Value := match o with
  | some c => .tuple #[.agg (cellsS c).toArray, .int .i64 0]
  | none => .tuple #[.agg (cellsS zS).toArray, .int .i64 160]
theorem parseSet_cons {now : Int} {s : List UInt8} {p : List UInt8} {ps : List (List UInt8)} (h : splitC 59 s = p :: ps) : parseSetC now s = (pairC p).map fun x => ps.foldl (pieceC now) (freshC x) := by
  unfold parseSetC; rw [h]
theorem put11 (w : World) (b : Nat) (v0 v1 v2 v3 v4 v5 v6 v7 v8 v9 v10 : Value) : (((((((((((w.setCell ⟨b, 0, none⟩ v0).setCell ⟨b, 1, none⟩ v1).setCell ⟨b, 2, none⟩ v2).setCell ⟨b, 3, none⟩ v3).setCell ⟨b, 4, none⟩ v4).setCell ⟨b, 5, none⟩ v5).setCell ⟨b, 6, none⟩ v6).setCell ⟨b, 7, none⟩ v7).setCell ⟨b, 8, none⟩ v8).setCell ⟨b, 9, none⟩ v9).setCell ⟨b, 10, none⟩ v10) = putAll w b 0 [v0, v1, v2, v3, v4, v5, v6, v7, v8, v9, v10] := rfl
set_option maxRecDepth 100000 in
theorem parseset_any (s : ByteArray) (now : Int) (w : World) (hE : EnvK w) (hs : s.size ≤ 1073741824) :
    Calls Tryz.prog 21 #[.string s, .int .i64 now] w fun e w' => e = .returned (setV (parseSetC now (L s))) ∧ Below w.heap.size w w' := by
  obtain ⟨p, ps, hps⟩ : ∃ p ps, splitC 59 (L s) = p :: ps := by
    cases h : splitC 59 (L s) with
    | nil => exact absurd h (splitC_ne _ _)
    | cons p ps => exact ⟨p, ps, rfl⟩
  have hP := parseSet_cons (now := now) hps
  have hall := splitC_each 59 (L s)
  have hlen := splitC_length 59 (L s)
  rw [hps] at hall hlen
  rw [L_length] at hlen hall
  have hp := hall p (List.mem_cons_self ..)
  have HALL := Lib.hid (fun q hq => hall q (List.mem_cons_of_mem _ hq))
  rw [hP]
  obtain ⟨V, hV⟩ := name_it (setV ((pairC p).map fun x => ps.foldl (pieceC now) (freshC x)))
  rw [hV.out]
  have HS := Lib.hid (fun w1 (h : EnvK w1) => splits_any s w1 h hs)
  rw [hps] at HS
  have K1 := Lib.hid (CellsAt.first w (cellsS zS) tS)
  have B1 := Lib.hid (below_put2 (w := w) (cs := (cellsS zS).toArray) (T := tS))
  have E1 := Lib.hid (hE.alloc (.cells (cellsS zS).toArray tS))
  have K1 : Hid (CellsAt (w.alloc (.cells #[.string ⟨#[]⟩, .string ⟨#[]⟩, .string ⟨#[]⟩, .string ⟨#[]⟩, .int .i64 0, .bool false, .int .i64 0, .bool false, .bool false, .bool false, .int .i64 0] tS)) w.heap.size (cellsS zS)) := K1
  have B1 : Hid (Below w.heap.size w (w.alloc (.cells #[.string ⟨#[]⟩, .string ⟨#[]⟩, .string ⟨#[]⟩, .string ⟨#[]⟩, .int .i64 0, .bool false, .int .i64 0, .bool false, .bool false, .bool false, .int .i64 0] tS))) := B1
  have E1 : Hid (EnvK (w.alloc (.cells #[.string ⟨#[]⟩, .string ⟨#[]⟩, .string ⟨#[]⟩, .string ⟨#[]⟩, .int .i64 0, .bool false, .int .i64 0, .bool false, .bool false, .bool false, .int .i64 0] tS))) := E1
  have hEV := Lib.hid hE.t.n
  clear hP hall hps hE
  go_enter Tryz.func21, Tryz.ntmps21
  go_wp2_with fail
  generalize w.alloc _ = w1 at K1 B1 E1 ⊢
  refine (HS.out _ E1.out).mono ?_; rintro e w2 ⟨rfl, hc2, hb2⟩
  have G1 := Lib.hid K1.out.lt
  have C2 := Lib.hid hc2
  have K2 := Lib.hid (K1.out.next hb2)
  have D2 := Lib.hid (B1.out.trans (hb2.mono B1.out.size))
  have E2 := Lib.hid (E1.out.next hb2)
  obtain ⟨g, hg⟩ : ∃ g, g = w1.heap.size := ⟨_, rfl⟩
  rw [← hg] at G1 C2
  rw [← hg]
  clear K1 B1 E1 HS hb2 hc2 hg w1
  have c0 := C2.out.at 0 _ rfl
  unfold strV at c0
  have hn : ((p :: ps).length : Nat) = ps.length + 1 := rfl
  rw [hn]
  go_wp2_with fail
  refine (pair_any (bs p) w2 E2.out (by rw [size_bs]; omega)).mono ?_; rintro e w3 ⟨rfl, hb3⟩
  rw [L_bs]
  have C3 := Lib.hid (C2.out.next hb3)
  have K3 := Lib.hid (K2.out.next hb3)
  have D3 := Lib.hid (D2.out.trans (hb3.mono D2.out.size))
  have E3 := Lib.hid (E2.out.next hb3)
  clear C2 K2 D2 E2 hb3 c0
  cases hpp : pairC p with
  | none =>
    rw [hpp] at hV
    have HV : Hid (setV none = V) := hV
    unfold pairV
    have B4 := below_put2 (w := w3) (cs := #[.string ⟨#[]⟩, .string ⟨#[]⟩]) (T := tCk)
    have K4 := Lib.hid (K3.out.next B4)
    have D4 := Lib.hid (D3.out.trans (B4.mono D3.out.size))
    have z0 := K4.out.at 0 _ rfl
    have z1 := K4.out.at 1 _ rfl
    have z2 := K4.out.at 2 _ rfl
    have z3 := K4.out.at 3 _ rfl
    have z4 := K4.out.at 4 _ rfl
    have z5 := K4.out.at 5 _ rfl
    have z6 := K4.out.at 6 _ rfl
    have z7 := K4.out.at 7 _ rfl
    have z8 := K4.out.at 8 _ rfl
    have z9 := K4.out.at 9 _ rfl
    have z10 := K4.out.at 10 _ rfl
    have y := K4.out.free
    have y0 := y 0
    have y1 := y 1
    have y2 := y 2
    have y3 := y 3
    have y4 := y 4
    have y5 := y 5
    have y6 := y 6
    have y7 := y 7
    have y8 := y 8
    have y9 := y 9
    have y10 := y 10
    have KE := Lib.hid (K4.out.put (cellsS zS) rfl)
    have DE := Lib.hid (putAll_below (cellsS zS) 0 _ _ D4.out (Nat.le_refl w.heap.size))
    clear y K4 D4 B4 hV hpp C3 K3 D3 E3
    go_wp2_with fail
    rw [put11]
    generalize hw9 : putAll _ w.heap.size 0 _ = w9
    have KG : Hid (CellsAt w9 w.heap.size (cellsS zS)) := by rw [← hw9]; exact KE
    have DG : Hid (Below w.heap.size w w9) := by rw [← hw9]; exact DE
    clear z0 z1 z2 z3 z4 z5 z6 z7 z8 z9 z10 y0 y1 y2 y3 y4 y5 y6 y7 y8 y9 y10 KE DE hw9
    have f0 : w9.cell? ⟨w.heap.size, 0, none⟩ = some (.string ⟨#[]⟩) := KG.out.at 0 _ rfl
    have f1 : w9.cell? ⟨w.heap.size, 1, none⟩ = some (.string ⟨#[]⟩) := KG.out.at 1 _ rfl
    have f2 : w9.cell? ⟨w.heap.size, 2, none⟩ = some (.string ⟨#[]⟩) := KG.out.at 2 _ rfl
    have f3 : w9.cell? ⟨w.heap.size, 3, none⟩ = some (.string ⟨#[]⟩) := KG.out.at 3 _ rfl
    have f4 : w9.cell? ⟨w.heap.size, 4, none⟩ = some (.int .i64 0) := KG.out.at 4 _ rfl
    have f5 : w9.cell? ⟨w.heap.size, 5, none⟩ = some (.bool false) := KG.out.at 5 _ rfl
    have f6 : w9.cell? ⟨w.heap.size, 6, none⟩ = some (.int .i64 0) := KG.out.at 6 _ rfl
    have f7 : w9.cell? ⟨w.heap.size, 7, none⟩ = some (.bool false) := KG.out.at 7 _ rfl
    have f8 : w9.cell? ⟨w.heap.size, 8, none⟩ = some (.bool false) := KG.out.at 8 _ rfl
    have f9 : w9.cell? ⟨w.heap.size, 9, none⟩ = some (.bool false) := KG.out.at 9 _ rfl
    have f10 : w9.cell? ⟨w.heap.size, 10, none⟩ = some (.int .i64 0) := KG.out.at 10 _ rfl
    refine bodyPost_ret (v := setV none) (by simp [results, Tryz.results21, go_sem, setV, cellsS, zS, freshC, bs, f0, f1, f2, f3, f4, f5, f6, f7, f8, f9, f10]) rfl ?_
    exact ⟨by rw [HV.out], DG.out⟩
  | some c =>
    rw [hpp] at hV
    obtain ⟨cn, cv⟩ := c
    have HV : Hid (setV (some (ps.foldl (pieceC now) (freshC (cn, cv)))) = V) := hV
    unfold pairV
    have B4 := below_put2 (w := w3) (cs := #[.string (bs cn), .string (bs cv)]) (T := tCk)
    have hz4 : (w3.alloc (.cells #[.string (bs cn), .string (bs cv)] tCk)).heap.size = w3.heap.size + 1 := Array.size_push ..
    have B5 : Below w3.heap.size w3 ((w3.alloc (.cells #[.string (bs cn), .string (bs cv)] tCk)).alloc (.cells #[.string (bs cn), .string (bs cv), .string ⟨#[]⟩, .string ⟨#[]⟩, .int .i64 0, .bool false, .int .i64 0, .bool false, .bool false, .bool false, .int .i64 0] tS)) := B4.alloc (by rw [hz4]; omega) _
    have K5 : Hid (CellsAt ((w3.alloc (.cells #[.string (bs cn), .string (bs cv)] tCk)).alloc (.cells #[.string (bs cn), .string (bs cv), .string ⟨#[]⟩, .string ⟨#[]⟩, .int .i64 0, .bool false, .int .i64 0, .bool false, .bool false, .bool false, .int .i64 0] tS)) (w3.heap.size + 1) (cellsS (freshC (cn, cv)))) := hz4 ▸ CellsAt.first (w3.alloc (.cells #[.string (bs cn), .string (bs cv)] tCk)) (cellsS (freshC (cn, cv))) tS
    have C5 := Lib.hid (C3.out.next B5)
    have KR := Lib.hid (K3.out.next B5)
    have D5 := Lib.hid (D3.out.trans (B5.mono D3.out.size))
    have E5 := Lib.hid (E3.out.next B5)
    have G5 : Hid (g < w3.heap.size) := C3.out.lt
    clear B4 B5 hz4 hV hpp C3 K3 D3 E3 K1 B1 E1
    go_wp2_with fail
    generalize (w3.alloc _).alloc _ = w5 at K5 C5 KR D5 E5 ⊢
    refine (attributes_any now w5).mono ?_; rintro e w6 ⟨rfl, hat, hb6⟩
    obtain ⟨b, hb⟩ : ∃ b, b = w3.heap.size + 1 := ⟨_, rfl⟩
    rw [← hb] at K5
    rw [← hb]
    have GB : Hid (g < b) := by have := G5.out; unfold Hid; omega
    have L5 := Lib.hid K5.out.lt
    have AT := Lib.hid hat
    have K6 := Lib.hid (K5.out.next hb6)
    have C6 := Lib.hid (C5.out.next hb6)
    have R6 := Lib.hid (KR.out.next hb6)
    have D6 := Lib.hid (D5.out.trans (hb6.mono D5.out.size))
    have E6 := Lib.hid (E5.out.next hb6)
    obtain ⟨bx, hbx⟩ : ∃ bx, bx = w5.heap.size := ⟨_, rfl⟩
    rw [← hbx] at AT L5
    rw [← hbx]
    have GW : Hid (w.heap.size < b) := by have := G1.out; have := GB.out; unfold Hid; omega
    clear K5 C5 KR D5 E5 hat hb6 G5 hb hbx
    obtain ⟨c0, hc0⟩ := name_it (freshC (cn, cv))
    rw [hc0.out] at K6 HV
    clear hc0
    cases ps with
    | nil =>
      have HV2 : Hid (setV (some c0) = V) := HV
      clear HV
      simp only [List.length_nil]
      go_wp2_with fail
      go_loopw [12, 13, 14, 15, 16, 39] (fun _ _ _ _ _ i wr => i = .int .i64 0 ∧ wr = w6) (fun _ _ _ _ _ _ _ => 0)
      case atStart => exact ⟨rfl, rfl⟩
      case round =>
        obtain ⟨rfl, rfl⟩ := hrel
        have d0 := K6.out.at 0 _ rfl
        have d1 := K6.out.at 1 _ rfl
        have d2 := K6.out.at 2 _ rfl
        have d3 := K6.out.at 3 _ rfl
        have d4 := K6.out.at 4 _ rfl
        have d5 := K6.out.at 5 _ rfl
        have d6 := K6.out.at 6 _ rfl
        have d7 := K6.out.at 7 _ rfl
        have d8 := K6.out.at 8 _ rfl
        have d9 := K6.out.at 9 _ rfl
        have d10 := K6.out.at 10 _ rfl
        have z0 := R6.out.at 0 _ rfl
        have z1 := R6.out.at 1 _ rfl
        have z2 := R6.out.at 2 _ rfl
        have z3 := R6.out.at 3 _ rfl
        have z4 := R6.out.at 4 _ rfl
        have z5 := R6.out.at 5 _ rfl
        have z6 := R6.out.at 6 _ rfl
        have z7 := R6.out.at 7 _ rfl
        have z8 := R6.out.at 8 _ rfl
        have z9 := R6.out.at 9 _ rfl
        have z10 := R6.out.at 10 _ rfl
        have y0 := R6.out.free 0
        have y1 := R6.out.free 1
        have y2 := R6.out.free 2
        have y3 := R6.out.free 3
        have y4 := R6.out.free 4
        have y5 := R6.out.free 5
        have y6 := R6.out.free 6
        have y7 := R6.out.free 7
        have y8 := R6.out.free 8
        have y9 := R6.out.free 9
        have y10 := R6.out.free 10
        have KE := Lib.hid (R6.out.put (cellsS c0) rfl)
        have DE := Lib.hid (putAll_below (cellsS c0) 0 _ _ D6.out (Nat.le_refl w.heap.size))
        clear K6 R6 D6
        go_wp2_with fail
        rw [put11]
        generalize hw9 : putAll _ w.heap.size 0 _ = w9
        have KG : Hid (CellsAt w9 w.heap.size (cellsS c0)) := by rw [← hw9]; exact KE
        have DG : Hid (Below w.heap.size w w9) := by rw [← hw9]; exact DE
        clear d0 d1 d2 d3 d4 d5 d6 d7 d8 d9 d10 z0 z1 z2 z3 z4 z5 z6 z7 z8 z9 z10 y0 y1 y2 y3 y4 y5 y6 y7 y8 y9 y10 KE DE hw9
        have f0 : w9.cell? ⟨w.heap.size, 0, none⟩ = some (.string (bs c0.name)) := KG.out.at 0 _ rfl
        have f1 : w9.cell? ⟨w.heap.size, 1, none⟩ = some (.string (bs c0.value)) := KG.out.at 1 _ rfl
        have f2 : w9.cell? ⟨w.heap.size, 2, none⟩ = some (.string (bs c0.path)) := KG.out.at 2 _ rfl
        have f3 : w9.cell? ⟨w.heap.size, 3, none⟩ = some (.string (bs c0.domain)) := KG.out.at 3 _ rfl
        have f4 : w9.cell? ⟨w.heap.size, 4, none⟩ = some (.int .i64 c0.maxAge) := KG.out.at 4 _ rfl
        have f5 : w9.cell? ⟨w.heap.size, 5, none⟩ = some (.bool c0.hasMax) := KG.out.at 5 _ rfl
        have f6 : w9.cell? ⟨w.heap.size, 6, none⟩ = some (.int .i64 c0.expires) := KG.out.at 6 _ rfl
        have f7 : w9.cell? ⟨w.heap.size, 7, none⟩ = some (.bool c0.hasExp) := KG.out.at 7 _ rfl
        have f8 : w9.cell? ⟨w.heap.size, 8, none⟩ = some (.bool c0.secure) := KG.out.at 8 _ rfl
        have f9 : w9.cell? ⟨w.heap.size, 9, none⟩ = some (.bool c0.http) := KG.out.at 9 _ rfl
        have f10 : w9.cell? ⟨w.heap.size, 10, none⟩ = some (.int .i64 c0.same) := KG.out.at 10 _ rfl
        refine bodyPost_ret (v := setV (some c0)) (by simp [results, Tryz.results21, go_sem, setV, cellsS, f0, f1, f2, f3, f4, f5, f6, f7, f8, f9, f10]) rfl ?_
        exact ⟨by rw [HV2.out], DG.out⟩
    | cons q0 qs =>
      obtain ⟨ps, hps⟩ := name_it (q0 :: qs)
      have hpl : 0 < ps.length := by rw [← hps.out]; simp
      rw [hps.out] at HV HALL C6 ⊢
      obtain ⟨nl, hnl⟩ := name_it ps.length
      rw [hnl.out] at hpl ⊢
      have hnb : nl ≤ 1073741825 := by rw [← hnl.out, ← hps.out]; simp at hlen ⊢; omega
      go_wp2_with fail
      all_goals (try (exfalso; omega))
      clear hlen hn hps
      obtain ⟨R, hR⟩ := name_it (ps.foldl (pieceC now) c0)
      rw [hR.out] at HV
      go_loopw [12, 13, 14, 15, 16, 39] (fun _ _ _ _ _ i wr => ∃ (k : Nat) (c : SetC), k ≤ nl ∧ i = .int .i64 k ∧ Hid ((ps.drop k).foldl (pieceC now) c = R) ∧ Hid (CellsAt wr b (cellsS c)) ∧ Hid (Keeps (fun i => i = b) w6 wr)) (fun _ _ _ _ _ i _ => nl - (intOf i).toNat)
      case atStart => exact ⟨0, c0, Nat.zero_le _, rfl, hR, K6, Keeps.refl _ _⟩
      clear hR K6
      case round =>
        obtain ⟨k, c, hk, rfl, hr, KC, KP⟩ := hrel
        obtain ⟨wq, hwq⟩ : ∃ wq, wq = wr := ⟨wr, rfl⟩
        subst hwq
        have DB : Hid (Below b w6 wq) := KP.out.below (B := b) (fun i hi h => by omega) (by have := AT.out.box.lt; have := L5.out; omega)
        have EQ : Hid (EnvK wq) := E6.out.below DB.out (by have := hEV.out; have := GW.out; omega)
        by_cases hlt : k < nl
        · have hkp : k < ps.length := by rw [hnl.out]; exact hlt
          have CG := (C6.out.keeps KP.out (by have := GB.out; omega)).at (1 + k) (.string (bs ps[k])) (by rw [Nat.add_comm, List.map_cons, List.getElem?_cons_succ, List.getElem?_map, List.getElem?_eq_getElem hkp]; rfl)
          have hq := HALL.out ps[k] (List.getElem_mem hkp)
          have hr2 := hr.out
          rw [List.drop_eq_getElem_cons hkp, List.foldl_cons] at hr2
          obtain ⟨q, hqn⟩ := name_it ps[k]
          rw [hqn.out] at CG hq hr2
          have hpc : pieceC now c q = attrC now c ((trim (halvesG 61 q).1).map lowerB) (trim (halvesG 61 q).2) := rfl
          rw [hpc] at hr2
          have HC := Lib.hid (cut_eq (bs q) wq EQ.out (by rw [size_bs]; omega))
          rw [L_bs] at HC
          obtain ⟨hl1, hl2⟩ := halves_le 61 q
          obtain ⟨A, hA⟩ := name_it (halvesG 61 q).1
          obtain ⟨Z, hZ⟩ := name_it (halvesG 61 q).2
          obtain ⟨ok, hok⟩ := name_it (cutC 61 q).isSome
          rw [hA.out, hZ.out, hok.out] at HC
          rw [hA.out] at hl1 hr2
          rw [hZ.out] at hl2 hr2
          have hla := trim_le A
          have hlz := trim_le Z
          obtain ⟨a, ha⟩ := name_it (trim A)
          obtain ⟨z, hz⟩ := name_it (trim Z)
          rw [ha.out] at hla hr2
          rw [hz.out] at hlz hr2
          have hlw := lower_length a
          obtain ⟨W, hW⟩ := name_it (lower a)
          have hW2 : a.map lowerB = W := hW.out
          rw [hW2] at hr2
          rw [hW.out] at hlw
          have HR2 := Lib.hid hr2
          have KW := Lib.hid (keyB W (by omega))
          have HZL := Lib.hid (show (bs z).size ≤ 1073741824 by rw [size_bs]; omega)
          clear hpc hA hZ hok hr hr2 hqn EQ
          go_wp2_with fail
          all_goals (try (exfalso; omega))
          refine HC.out.mono ?_; rintro e w8 ⟨rfl, hb8⟩
          have KP8 : Hid (Keeps (fun i => i = b) w6 w8) := KP.out.trans (Keeps.of hb8 (Nat.le_refl _))
          have KC8 := Lib.hid (KC.out.next hb8)
          clear KC HC hb8 CG DB KP
          go_wp2_with fail
          refine (strim_any (bs A) w8 (by unfold maxLen; rw [size_bs]; omega)).mono ?_; rintro e w9 ⟨rfl, hb9⟩
          rw [L_bs, ha.out]
          have KP9 : Hid (Keeps (fun i => i = b) w6 w9) := KP8.out.trans (Keeps.of hb9 (Nat.le_refl _))
          have KC9 := Lib.hid (KC8.out.next hb9)
          clear KC8 KP8 hb9
          go_wp2_with fail
          refine (lower_any (bs a) w9 (by unfold maxLen; rw [size_bs]; omega)).mono ?_; rintro e w10 ⟨rfl, hb10⟩
          rw [L_bs, hW.out]
          have KP10 : Hid (Keeps (fun i => i = b) w6 w10) := KP9.out.trans (Keeps.of hb10 (Nat.le_refl _))
          have KC10 := Lib.hid (KC9.out.next hb10)
          clear KC9 KP9 hb10
          have OW := map_keeps AT.out.own KP10.out (by have := L5.out; omega)
          obtain ⟨v, pl, hrun, hv⟩ := OW.lookup lawS undF (zeroF _) (RF_nil bx) KW.out
          have hv2 := att_val hv
          have TZ := Lib.hid (strim_any (bs Z) w10 (by unfold maxLen; rw [size_bs]; omega))
          rw [L_bs, hz.out] at TZ
          have DB10 : Hid (Below b w6 w10) := KP10.out.below (B := b) (fun i hi h => by omega) (by have := AT.out.box.lt; have := L5.out; omega)
          have E10 := Lib.hid (E6.out.below DB10.out (by have := hEV.out; have := GW.out; omega))
          have BX10 := Lib.hid (AT.out.box.keeps KP10.out (by have := L5.out; omega))
          clear hv OW DB10 KW ha hz hW hW2
          rcases hv2 with ⟨h, rfl⟩ | ⟨h, rfl⟩ | ⟨h, rfl⟩ | ⟨h, rfl⟩ | ⟨h, rfl⟩ | ⟨h, rfl⟩ | ⟨h, rfl⟩ | ⟨⟨h1, h2, h3, h4, h5, h6, h7⟩, rfl⟩
          · unfold fbV at hrun
            have hnn : (binOp BinOp.neq 100 (.func (.func 97) #[] #[.pointer (some ⟨bx, 0, none⟩)]) .nilFunc).run Tryz.prog w10 = .ok (.bool true) w10 := by kernel_rfl
            have HR3 : Hid ((ps.drop (k + 1)).foldl (pieceC now) (if (expC now z).e = 0 then { c with expires := (expC now z).m, hasExp := true } else c) = R) := by
              rw [← HR2.out, h]; rfl
            clear HR2 h
            go_wp2_with fail
            refine TZ.out.mono ?_; rintro e w11 ⟨rfl, hb11⟩
            go_wp2_with fail
            refine (att1_any b bx now c (bs z) w11 (E10.out.next hb11).s (KC10.out.next hb11) (BX10.out.next hb11) HZL.out).mono ?_; rintro e w12 ⟨rfl, hc12, hk12⟩
            (try rw [L_bs] at hc12)
            have KP12 : Hid (Keeps (fun i => i = b) w6 w12) := (KP10.out.trans (Keeps.of hb11 (Nat.le_refl _))).trans hk12
            have KC12 := Lib.hid hc12
            clear hb11 hc12 hk12 hrun KC10 KP10 hnn
            go_wp2_with fail
            go_roundw
            case rel => exact ⟨k + 1, _, by omega, by go_num, HR3, KC12, KP12⟩
            case measure => simp [intOf]; omega
          · unfold fcV at hrun
            have hnn : (binOp BinOp.neq 100 (.func (.func 99) #[] #[]) .nilFunc).run Tryz.prog w10 = .ok (.bool true) w10 := by kernel_rfl
            have HR3 : Hid ((ps.drop (k + 1)).foldl (pieceC now) (match ageC z with | none => c | some n => { c with maxAge := n, hasMax := true }) = R) := by
              rw [← HR2.out, h]; rfl
            clear HR2 h
            go_wp2_with fail
            refine TZ.out.mono ?_; rintro e w11 ⟨rfl, hb11⟩
            go_wp2_with fail
            refine (att2_any b c (bs z) w11 (KC10.out.next hb11) HZL.out).mono ?_; rintro e w12 ⟨rfl, hc12, hk12⟩
            (try rw [L_bs] at hc12)
            have KP12 : Hid (Keeps (fun i => i = b) w6 w12) := (KP10.out.trans (Keeps.of hb11 (Nat.le_refl _))).trans hk12
            have KC12 := Lib.hid hc12
            clear hb11 hc12 hk12 hrun KC10 KP10 hnn
            go_wp2_with fail
            go_roundw
            case rel => exact ⟨k + 1, _, by omega, by go_num, HR3, KC12, KP12⟩
            case measure => simp [intOf]; omega
          · unfold fcV at hrun
            have hnn : (binOp BinOp.neq 100 (.func (.func 101) #[] #[]) .nilFunc).run Tryz.prog w10 = .ok (.bool true) w10 := by kernel_rfl
            have HR3 : Hid ((ps.drop (k + 1)).foldl (pieceC now) (if domC (undot (z.map lowerB)) = true then { c with domain := undot (z.map lowerB) } else c) = R) := by
              rw [← HR2.out, h]; rfl
            clear HR2 h
            go_wp2_with fail
            refine TZ.out.mono ?_; rintro e w11 ⟨rfl, hb11⟩
            go_wp2_with fail
            refine (att3_any b c (bs z) w11 (KC10.out.next hb11) HZL.out).mono ?_; rintro e w12 ⟨rfl, hc12, hk12⟩
            (try rw [L_bs] at hc12)
            have KP12 : Hid (Keeps (fun i => i = b) w6 w12) := (KP10.out.trans (Keeps.of hb11 (Nat.le_refl _))).trans hk12
            have KC12 := Lib.hid hc12
            clear hb11 hc12 hk12 hrun KC10 KP10 hnn
            go_wp2_with fail
            go_roundw
            case rel => exact ⟨k + 1, _, by omega, by go_num, HR3, KC12, KP12⟩
            case measure => simp [intOf]; omega
          · unfold fcV at hrun
            have hnn : (binOp BinOp.neq 100 (.func (.func 103) #[] #[]) .nilFunc).run Tryz.prog w10 = .ok (.bool true) w10 := by kernel_rfl
            have HR3 : Hid ((ps.drop (k + 1)).foldl (pieceC now) { c with path := if pathC z = true then z else [] } = R) := by
              rw [← HR2.out, h]; rfl
            clear HR2 h
            go_wp2_with fail
            refine TZ.out.mono ?_; rintro e w11 ⟨rfl, hb11⟩
            go_wp2_with fail
            refine (att4_any b c (bs z) w11 (KC10.out.next hb11) HZL.out).mono ?_; rintro e w12 ⟨rfl, hc12, hk12⟩
            (try rw [L_bs] at hc12)
            have KP12 : Hid (Keeps (fun i => i = b) w6 w12) := (KP10.out.trans (Keeps.of hb11 (Nat.le_refl _))).trans hk12
            have KC12 := Lib.hid hc12
            clear hb11 hc12 hk12 hrun KC10 KP10 hnn
            go_wp2_with fail
            go_roundw
            case rel => exact ⟨k + 1, _, by omega, by go_num, HR3, KC12, KP12⟩
            case measure => simp [intOf]; omega
          · unfold fcV at hrun
            have hnn : (binOp BinOp.neq 100 (.func (.func 104) #[] #[]) .nilFunc).run Tryz.prog w10 = .ok (.bool true) w10 := by kernel_rfl
            have HR3 : Hid ((ps.drop (k + 1)).foldl (pieceC now) { c with secure := true } = R) := by
              rw [← HR2.out, h]; rfl
            clear HR2 h
            go_wp2_with fail
            refine TZ.out.mono ?_; rintro e w11 ⟨rfl, hb11⟩
            go_wp2_with fail
            refine (att5_any b c (bs z) w11 (KC10.out.next hb11)).mono ?_; rintro e w12 ⟨rfl, hc12, hk12⟩
            (try rw [L_bs] at hc12)
            have KP12 : Hid (Keeps (fun i => i = b) w6 w12) := (KP10.out.trans (Keeps.of hb11 (Nat.le_refl _))).trans hk12
            have KC12 := Lib.hid hc12
            clear hb11 hc12 hk12 hrun KC10 KP10 hnn
            go_wp2_with fail
            go_roundw
            case rel => exact ⟨k + 1, _, by omega, by go_num, HR3, KC12, KP12⟩
            case measure => simp [intOf]; omega
          · unfold fcV at hrun
            have hnn : (binOp BinOp.neq 100 (.func (.func 105) #[] #[]) .nilFunc).run Tryz.prog w10 = .ok (.bool true) w10 := by kernel_rfl
            have HR3 : Hid ((ps.drop (k + 1)).foldl (pieceC now) { c with http := true } = R) := by
              rw [← HR2.out, h]; rfl
            clear HR2 h
            go_wp2_with fail
            refine TZ.out.mono ?_; rintro e w11 ⟨rfl, hb11⟩
            go_wp2_with fail
            refine (att6_any b c (bs z) w11 (KC10.out.next hb11)).mono ?_; rintro e w12 ⟨rfl, hc12, hk12⟩
            (try rw [L_bs] at hc12)
            have KP12 : Hid (Keeps (fun i => i = b) w6 w12) := (KP10.out.trans (Keeps.of hb11 (Nat.le_refl _))).trans hk12
            have KC12 := Lib.hid hc12
            clear hb11 hc12 hk12 hrun KC10 KP10 hnn
            go_wp2_with fail
            go_roundw
            case rel => exact ⟨k + 1, _, by omega, by go_num, HR3, KC12, KP12⟩
            case measure => simp [intOf]; omega
          · unfold fcV at hrun
            have hnn : (binOp BinOp.neq 100 (.func (.func 106) #[] #[]) .nilFunc).run Tryz.prog w10 = .ok (.bool true) w10 := by kernel_rfl
            have HR3 : Hid ((ps.drop (k + 1)).foldl (pieceC now) { c with same := sameC (z.map lowerB) } = R) := by
              rw [← HR2.out, h]; rfl
            clear HR2 h
            go_wp2_with fail
            refine TZ.out.mono ?_; rintro e w11 ⟨rfl, hb11⟩
            go_wp2_with fail
            refine (att7_any b c (bs z) w11 (KC10.out.next hb11) HZL.out).mono ?_; rintro e w12 ⟨rfl, hc12, hk12⟩
            (try rw [L_bs] at hc12)
            have KP12 : Hid (Keeps (fun i => i = b) w6 w12) := (KP10.out.trans (Keeps.of hb11 (Nat.le_refl _))).trans hk12
            have KC12 := Lib.hid hc12
            clear hb11 hc12 hk12 hrun KC10 KP10 hnn
            go_wp2_with fail
            go_roundw
            case rel => exact ⟨k + 1, _, by omega, by go_num, HR3, KC12, KP12⟩
            case measure => simp [intOf]; omega
          · have HR3 : Hid ((ps.drop (k + 1)).foldl (pieceC now) c = R) := by
              rw [← HR2.out]; unfold Hid attrC
              rw [if_neg h1, if_neg h2, if_neg h3, if_neg h4, if_neg h5, if_neg h6, if_neg h7]
            clear HR2 h1 h2 h3 h4 h5 h6 h7 TZ
            have hnn : (binOp BinOp.neq 100 .nilFunc .nilFunc).run Tryz.prog w10 = .ok (.bool false) w10 := by kernel_rfl
            go_wp2_with fail
            go_roundw
            case rel => exact ⟨k + 1, c, by omega, by go_num, HR3, KC10, KP10⟩
            case measure => simp [intOf]; omega
        · have hkn : k = ps.length := by rw [hnl.out]; omega
          have hr2 := hr.out
          rw [hkn, List.drop_length] at hr2
          have hcR : c = R := hr2
          have HV2 : Hid (setV (some c) = V) := by rw [hcR]; exact HV
          have RQ := Lib.hid (R6.out.keeps KP.out (by have := GW.out; omega))
          have DQ := Lib.hid (D6.out.trans (KP.out.below (B := w.heap.size) (fun i hi h => by have := GW.out; omega) D6.out.size))
          clear hr hr2 hcR HV KP EQ DB R6 D6 hkn
          have d0 := KC.out.at 0 _ rfl
          have d1 := KC.out.at 1 _ rfl
          have d2 := KC.out.at 2 _ rfl
          have d3 := KC.out.at 3 _ rfl
          have d4 := KC.out.at 4 _ rfl
          have d5 := KC.out.at 5 _ rfl
          have d6 := KC.out.at 6 _ rfl
          have d7 := KC.out.at 7 _ rfl
          have d8 := KC.out.at 8 _ rfl
          have d9 := KC.out.at 9 _ rfl
          have d10 := KC.out.at 10 _ rfl
          have z0 := RQ.out.at 0 _ rfl
          have z1 := RQ.out.at 1 _ rfl
          have z2 := RQ.out.at 2 _ rfl
          have z3 := RQ.out.at 3 _ rfl
          have z4 := RQ.out.at 4 _ rfl
          have z5 := RQ.out.at 5 _ rfl
          have z6 := RQ.out.at 6 _ rfl
          have z7 := RQ.out.at 7 _ rfl
          have z8 := RQ.out.at 8 _ rfl
          have z9 := RQ.out.at 9 _ rfl
          have z10 := RQ.out.at 10 _ rfl
          have y0 := RQ.out.free 0
          have y1 := RQ.out.free 1
          have y2 := RQ.out.free 2
          have y3 := RQ.out.free 3
          have y4 := RQ.out.free 4
          have y5 := RQ.out.free 5
          have y6 := RQ.out.free 6
          have y7 := RQ.out.free 7
          have y8 := RQ.out.free 8
          have y9 := RQ.out.free 9
          have y10 := RQ.out.free 10
          have KE := Lib.hid (RQ.out.put (cellsS c) rfl)
          have DE := Lib.hid (putAll_below (cellsS c) 0 _ _ DQ.out (Nat.le_refl w.heap.size))
          clear KC RQ DQ
          go_wp2_with fail
          rw [put11]
          generalize hw9 : putAll _ w.heap.size 0 _ = w9
          have KG : Hid (CellsAt w9 w.heap.size (cellsS c)) := by rw [← hw9]; exact KE
          have DG : Hid (Below w.heap.size w w9) := by rw [← hw9]; exact DE
          clear d0 d1 d2 d3 d4 d5 d6 d7 d8 d9 d10 z0 z1 z2 z3 z4 z5 z6 z7 z8 z9 z10 y0 y1 y2 y3 y4 y5 y6 y7 y8 y9 y10 KE DE hw9
          have f0 : w9.cell? ⟨w.heap.size, 0, none⟩ = some (.string (bs c.name)) := KG.out.at 0 _ rfl
          have f1 : w9.cell? ⟨w.heap.size, 1, none⟩ = some (.string (bs c.value)) := KG.out.at 1 _ rfl
          have f2 : w9.cell? ⟨w.heap.size, 2, none⟩ = some (.string (bs c.path)) := KG.out.at 2 _ rfl
          have f3 : w9.cell? ⟨w.heap.size, 3, none⟩ = some (.string (bs c.domain)) := KG.out.at 3 _ rfl
          have f4 : w9.cell? ⟨w.heap.size, 4, none⟩ = some (.int .i64 c.maxAge) := KG.out.at 4 _ rfl
          have f5 : w9.cell? ⟨w.heap.size, 5, none⟩ = some (.bool c.hasMax) := KG.out.at 5 _ rfl
          have f6 : w9.cell? ⟨w.heap.size, 6, none⟩ = some (.int .i64 c.expires) := KG.out.at 6 _ rfl
          have f7 : w9.cell? ⟨w.heap.size, 7, none⟩ = some (.bool c.hasExp) := KG.out.at 7 _ rfl
          have f8 : w9.cell? ⟨w.heap.size, 8, none⟩ = some (.bool c.secure) := KG.out.at 8 _ rfl
          have f9 : w9.cell? ⟨w.heap.size, 9, none⟩ = some (.bool c.http) := KG.out.at 9 _ rfl
          have f10 : w9.cell? ⟨w.heap.size, 10, none⟩ = some (.int .i64 c.same) := KG.out.at 10 _ rfl
          refine bodyPost_ret (v := setV (some c)) (by simp [results, Tryz.results21, go_sem, setV, cellsS, f0, f1, f2, f3, f4, f5, f6, f7, f8, f9, f10]) rfl ?_
          exact ⟨by rw [HV2.out], DG.out⟩
end Go.Proofs.YtkenianfpfamcaaGreatDoor
