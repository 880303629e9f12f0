/- CookieMemory: a jar and the document's in memory; what is asked at the end of a round. CookieMemory: what came out is written over and grown. CookieMemory: what comes out of the jar in a round. -/
import Derived.Test.YtkenianfpfamcaaGreatDoorDe
import Derived.Test.YtkenianfpfamcaaGreatDoorDocQJ
import Derived.Test.YtkenianfpfamcaaGreatDoorDa
import Derived.Test.YtkenianfpfamcaaGreatDoorWrapFJ
import Derived.Deep.RegionHeld3
namespace Go.Proofs.YtkenianfpfamcaaGreatDoor
open Go Go.RowKit
set_option maxHeartbeats 16000000

/-- a jar and the document's, in memory: the document's in a box of the call's own -/
structure Mm (w : World) (b jb mb most n : Nat) (q : Option Addr) (cap : Nat) (l : List It) (wx : World) : Prop where
  box : CellsAt wx b [.int .i64 most, .slice q (l.map It.k).length cap]
  j : JarAt wx jb mb most n l
  d : KpL wx q (l.map It.k)
  cap : (l.map It.k).length ≤ cap
  len : l.length ≤ most
  bl : Below w.heap.size w wx
  low : w.heap.size ≤ b ∧ w.heap.size ≤ jb ∧ w.heap.size ≤ mb ∧ b ≠ jb ∧ b ≠ mb
  qj : ∀ g off, q = some ⟨g, off, none⟩ → g ≠ jb ∧ g ≠ mb ∧ g ≠ b
theorem Mm.next {w : World} {b jb mb most n : Nat} {q : Option Addr} {cap : Nat} {l : List It} {wx wy : World} (h : Mm w b jb mb most n q cap l wx) (hb : Below wx.heap.size wx wy) : Mm w b jb mb most n q cap l wy :=
  ⟨h.box.next hb, h.j.next_ hb, h.d.next hb, h.cap, h.len, h.bl.trans (hb.mono h.bl.size), h.low, h.qj⟩
theorem kp_fit {w : World} {jb mb most n : Nat} {l : List It} (h : JarAt w jb mb most n l) : ∀ k ∈ l.map It.k, k.dom.length ≤ 1073741824 ∧ k.path.length ≤ 1073741824 := by
  intro k hk
  obtain ⟨x, hx, rfl⟩ := List.mem_map.1 hk
  have := (h.fit x hx).2.1
  exact ⟨this.b, this.c⟩
theorem row_lieS {w : World} {base : Nat} {p : Option Addr} {cap : Nat} {l : List SetC} (h : w.ownsRow base tS 11 (.slice p l.length cap) l.length (rowS l)) : ScL w p l := row_lies cellsS_len h
theorem getJ_len (l : List Kp) (host path : List UInt8) (sec : Bool) (now : Int) : (getJ l host path sec now).length ≤ l.length := by
  unfold getJ
  rw [List.length_map, (insAll_perm _ _).length_eq]
  exact List.length_filter_le _ _
noncomputable def memFrom29 : Code := ((Tryz.f7.body.bind (fromReg 29)).getD .skip)
set_option maxRecDepth 100000 in
theorem mem_t29 {Q : Exit → Act → World → Prop} {K : Act → World → Prop} (hK : ∀ a w, Code.wp Tryz.prog (seqTl memFrom29) Q a w → K a w) {w w9 : World} {b jb mb most n ob xb s1 s3 : Nat} {q : Option Addr} {cap : Nat} {l : List It} {o : OpC} {vb vd : Value}
    (M : Hid (Mm w b jb mb most n q cap l w9)) (O : Hid (CellsAt w9 ob (cellsO o))) (X : Hid (CellsAt w9 xb [.string (bs o.host), .string (bs o.path), .bool true, .int .i64 o.now])) (hh : o.host.length ≤ 1073741824) (hp : o.path.length ≤ 1073741824) (hn : n ≤ 549755813888)
    (RB : Hid (w9.ownsRow s1 tCk 2 vb (getJ (l.map It.k) o.host o.path true o.now).length (rowC (getJ (l.map It.k) o.host o.path true o.now)))) (RD : Hid (w9.ownsRow s3 tS 11 vd (allI l).length (rowS (allI l))))
    {c0 c1 c2 c5 c6 c9 c11 c13 c14 c15 c16 c17 c18 c19 c20 c21 c22 c23 c24 c25 c26 c27 c28 c29 c30 c31 c32 c33 c34 c35 c36 c37 c38 c39 c40 c41 c42 c43 c44 c45 c46 c47 c48 c49 c50 c51 c52 c53 c54 c55 c56 c57 c58 c59 c60 c61 c62 c63 c64 c65 c66 c67 c68 c69 c70 c71 c72 c73 c74 c75 c76 c77 c78 c79 c80 c81 c82 c83 c84 c85 c86 c87 c88 c89 c90 c91 c92 c93 c94 c95 c96 c97 c98 c99 c100 c101 c102 c103 c104 c105 c106 c107 c108 c109 c110 c111 c112 c113 c114 c115 c116 c117 c118 c119 c120 c121 c122 c123 c124 c125 c126 c127 c128 c129 c130 c131 c132 c133 c134 c135 c136 c137 c138 c139 c140 c141 c142 c143 c144 c145 c146 c147 c148 c149 c150 c151 c152 c153 c154 c155 c156 c157 : Value}
    (hnorm : ∀ (d2 d121 d122 d123 d124 d125 d126 d127 d128 d129 d130 d131 d132 d133 d134 d135 d136 d137 d138 d139 d140 d141 d142 d143 d144 d145 d146 d147 d148 d149 d150 d151 d152 d153 d154 d155 d156 : Value) (w0 : World), Below w9.heap.size w9 w0 → Q .normal ⟨List.toArray (c0 :: c1 :: d2 :: .pointer (some ⟨jb, 0, none⟩) :: .pointer (some ⟨b, 0, none⟩) :: c5 :: c6 :: .pointer (some ⟨ob, 0, none⟩) :: .pointer (some ⟨xb, 0, none⟩) :: c9 :: vb :: c11 :: vd :: c13 :: c14 :: c15 :: c16 :: c17 :: c18 :: c19 :: c20 :: c21 :: c22 :: c23 :: c24 :: c25 :: c26 :: c27 :: c28 :: c29 :: c30 :: c31 :: c32 :: c33 :: c34 :: c35 :: c36 :: c37 :: c38 :: c39 :: c40 :: c41 :: c42 :: c43 :: c44 :: c45 :: c46 :: c47 :: c48 :: c49 :: c50 :: c51 :: c52 :: c53 :: c54 :: c55 :: c56 :: c57 :: c58 :: c59 :: c60 :: c61 :: c62 :: c63 :: c64 :: c65 :: c66 :: c67 :: c68 :: c69 :: c70 :: c71 :: c72 :: c73 :: c74 :: c75 :: c76 :: c77 :: c78 :: c79 :: c80 :: c81 :: c82 :: c83 :: c84 :: c85 :: c86 :: c87 :: c88 :: c89 :: c90 :: c91 :: c92 :: c93 :: c94 :: c95 :: c96 :: c97 :: c98 :: c99 :: c100 :: c101 :: c102 :: c103 :: c104 :: c105 :: c106 :: c107 :: c108 :: c109 :: c110 :: c111 :: c112 :: c113 :: c114 :: c115 :: c116 :: c117 :: c118 :: c119 :: c120 :: d121 :: d122 :: d123 :: d124 :: d125 :: d126 :: d127 :: d128 :: d129 :: d130 :: d131 :: d132 :: d133 :: d134 :: d135 :: d136 :: d137 :: d138 :: d139 :: d140 :: d141 :: d142 :: d143 :: d144 :: d145 :: d146 :: d147 :: d148 :: d149 :: d150 :: d151 :: d152 :: d153 :: d154 :: d155 :: d156 :: c157 :: []), []⟩ w0) :
    Code.wp Tryz.prog (seqHd memFrom29) (Exit.then K Q) ⟨List.toArray (c0 :: c1 :: c2 :: .pointer (some ⟨jb, 0, none⟩) :: .pointer (some ⟨b, 0, none⟩) :: c5 :: c6 :: .pointer (some ⟨ob, 0, none⟩) :: .pointer (some ⟨xb, 0, none⟩) :: c9 :: vb :: c11 :: vd :: c13 :: c14 :: c15 :: c16 :: c17 :: c18 :: c19 :: c20 :: c21 :: c22 :: c23 :: c24 :: c25 :: c26 :: c27 :: c28 :: c29 :: c30 :: c31 :: c32 :: c33 :: c34 :: c35 :: c36 :: c37 :: c38 :: c39 :: c40 :: c41 :: c42 :: c43 :: c44 :: c45 :: c46 :: c47 :: c48 :: c49 :: c50 :: c51 :: c52 :: c53 :: c54 :: c55 :: c56 :: c57 :: c58 :: c59 :: c60 :: c61 :: c62 :: c63 :: c64 :: c65 :: c66 :: c67 :: c68 :: c69 :: c70 :: c71 :: c72 :: c73 :: c74 :: c75 :: c76 :: c77 :: c78 :: c79 :: c80 :: c81 :: c82 :: c83 :: c84 :: c85 :: c86 :: c87 :: c88 :: c89 :: c90 :: c91 :: c92 :: c93 :: c94 :: c95 :: c96 :: c97 :: c98 :: c99 :: c100 :: c101 :: c102 :: c103 :: c104 :: c105 :: c106 :: c107 :: c108 :: c109 :: c110 :: c111 :: c112 :: c113 :: c114 :: c115 :: c116 :: c117 :: c118 :: c119 :: c120 :: c121 :: c122 :: c123 :: c124 :: c125 :: c126 :: c127 :: c128 :: c129 :: c130 :: c131 :: c132 :: c133 :: c134 :: c135 :: c136 :: c137 :: c138 :: c139 :: c140 :: c141 :: c142 :: c143 :: c144 :: c145 :: c146 :: c147 :: c148 :: c149 :: c150 :: c151 :: c152 :: c153 :: c154 :: c155 :: c156 :: c157 :: []), []⟩ w9 := by
  obtain ⟨kd, c, host, path, sec, now⟩ := o
  simp only at X hh hp RB
  have hlm := M.out.j.most
  have hll := M.out.len
  have RG := Lib.hid (fun W (hW : Below w9.heap.size w9 W) => rget_any most q cap (l.map It.k) host path true now W (M.out.d.next hW) (by rw [List.length_map]; omega) hh hp (kp_fit M.out.j))
  have PG := Lib.hid (fun W (hW : Below w9.heap.size w9 W) => get_any W jb mb most n l (bs host) (bs path) true now (M.out.j.next_ hW) (by omega) (by omega) (by rw [size_bs]; exact hh) (by rw [size_bs]; exact hp))
  simp only [L_bs] at PG
  have RA := Lib.hid (fun W (hW : Below w9.heap.size w9 W) => rall_any most q cap (l.map It.k) W (M.out.d.next hW) (by rw [List.length_map]; omega))
  have PA := Lib.hid (fun W (hW : Below w9.heap.size w9 W) => all_any W jb mb most n l (M.out.j.next_ hW) (by omega) (by omega))
  have hgl := getJ_len (l.map It.k) host path true now
  rw [List.length_map] at hgl
  have hal : (allI l).length = (l.map It.k).length := by rw [allI_k]; unfold allJ; rw [List.length_map]
  have hal2 : (allI l).length = l.length := by rw [hal, List.length_map]
  rw [← allI_k, ← hal] at RA
  have HBX := Lib.hid M.out.box
  rw [← hal] at HBX RG
  obtain ⟨G, hG⟩ := name_it (getJ (l.map It.k) host path true now)
  rw [hG.out] at RG PG RB hgl
  obtain ⟨AL, hAL⟩ := name_it (allI l)
  rw [hAL.out] at RA PA RD HBX RG hal2
  obtain ⟨sb, cb, hvb⟩ := row_slice RB.out
  obtain ⟨sd, cd, hvd⟩ := row_slice RD.out
  subst hvb
  subst hvd
  have CB := Lib.hid (fun W (hW : Below w9.heap.size w9 W) => (row_cks RB.out).next hW)
  have CD := Lib.hid (fun W (hW : Below w9.heap.size w9 W) => (row_lieS RD.out).next hW)
  have HGL : Hid (G.length ≤ 3000) := by unfold Hid; omega
  have HAL : Hid (AL.length ≤ 3000) := by unfold Hid; omega
  have SK : Hid (∀ W, Below w9.heap.size w9 W → W.cell? ⟨b, 0, none⟩ = some (.int .i64 most) ∧ W.cell? ⟨b, 1, none⟩ = some (.slice q AL.length cap) ∧ W.cell? ⟨xb, 0, none⟩ = some (.string (bs host)) ∧ W.cell? ⟨xb, 1, none⟩ = some (.string (bs path)) ∧ W.cell? ⟨xb, 2, none⟩ = some (.bool true) ∧ W.cell? ⟨xb, 3, none⟩ = some (.int .i64 now) ∧ W.cell? ⟨ob, 12, none⟩ = some (.string (bs host)) ∧ W.cell? ⟨ob, 13, none⟩ = some (.string (bs path)) ∧ W.cell? ⟨ob, 15, none⟩ = some (.int .i64 now)) := fun W hW =>
    ⟨(HBX.out.next hW).at 0 _ rfl, (HBX.out.next hW).at 1 _ rfl, (X.out.next hW).at 0 _ rfl, (X.out.next hW).at 1 _ rfl, (X.out.next hW).at 2 _ rfl, (X.out.next hW).at 3 _ rfl, (O.out.next hW).at 12 _ rfl, (O.out.next hW).at 13 _ rfl, (O.out.next hW).at 15 _ rfl⟩
  have BD := Lib.hid (Below.refl w9.heap.size w9).drew
  obtain ⟨x0, x1, x2, x3, x4, x5, x6, x7, x8⟩ := SK.out w9 (Below.refl _ _)
  have HN := Lib.hid hnorm
  clear hnorm M O X RB RD hG hAL hgl hal hal2 hh hp hn hlm hll HBX
  unfold ptrV at PG PA
  conv => arg 2; whnf
  go_region_held3 (fun W => W.cell? ⟨b, 0, none⟩ = some (.int .i64 most) ∧ W.cell? ⟨b, 1, none⟩ = some (.slice q AL.length cap) ∧ W.cell? ⟨xb, 0, none⟩ = some (.string (bs host)) ∧ W.cell? ⟨xb, 1, none⟩ = some (.string (bs path)) ∧ W.cell? ⟨xb, 2, none⟩ = some (.bool true) ∧ W.cell? ⟨xb, 3, none⟩ = some (.int .i64 now) ∧ W.cell? ⟨ob, 12, none⟩ = some (.string (bs host)) ∧ W.cell? ⟨ob, 13, none⟩ = some (.string (bs path)) ∧ W.cell? ⟨ob, 15, none⟩ = some (.int .i64 now))
    (exact SK.out _ BD.out)
    (first
    | (go_at_call 29; have KK := K3.out; refine (RG.out _ BD.out).mono ?_; rintro e w' ⟨⟨v1, rfl, h1⟩, b1⟩; have h1 : _ := h1; obtain ⟨p1, c1, e1⟩ := row_slice h1; subst e1; have K1 := Lib.hid (row_cks h1); have K3 := Lib.hid (KK.next b1); have BD := Lib.hid (BD.out.trans (b1.mono BD.out.size)))
    | (go_at_call 29; refine (RG.out _ BD.out).mono ?_; rintro e w' ⟨⟨v1, rfl, h1⟩, b1⟩; have h1 : _ := h1; obtain ⟨p1, c1, e1⟩ := row_slice h1; subst e1; have K1 := Lib.hid (row_cks h1); have BD := Lib.hid (BD.out.trans (b1.mono BD.out.size)))
    | (go_at_call 15; have KK := K3.out; refine (same_self _ p3 p1 c3 c1 G KK K1.out (by have := HGL.out; omega)).mono ?_; rintro e w' ⟨rfl, b1⟩; have BD := Lib.hid (BD.out.trans (b1.mono BD.out.size)))
    | (go_at_call 15; refine (same_self _ sb p1 cb c1 G (CB.out _ BD.out) K1.out (by have := HGL.out; omega)).mono ?_; rintro e w' ⟨rfl, b1⟩; have BD := Lib.hid (BD.out.trans (b1.mono BD.out.size)))
    | (go_at_call 31; have KK := K4.out; refine (RA.out _ BD.out).mono ?_; rintro e w' ⟨⟨p2, c2, rfl, h2⟩, b1⟩; have K2 := Lib.hid h2; have K4 := Lib.hid (KK.next b1); have BD := Lib.hid (BD.out.trans (b1.mono BD.out.size)))
    | (go_at_call 31; refine (RA.out _ BD.out).mono ?_; rintro e w' ⟨⟨p2, c2, rfl, h2⟩, b1⟩; have K2 := Lib.hid h2; have BD := Lib.hid (BD.out.trans (b1.mono BD.out.size)))
    | (go_at_call 30; have KK := K4.out; refine (sameSets_self _ p4 p2 c4 c2 AL KK K2.out (by have := HAL.out; omega)).mono ?_; rintro e w' ⟨rfl, b1⟩; have BD := Lib.hid (BD.out.trans (b1.mono BD.out.size)))
    | (go_at_call 30; refine (sameSets_self _ sd p2 cd c2 AL (CD.out _ BD.out) K2.out (by have := HAL.out; omega)).mono ?_; rintro e w' ⟨rfl, b1⟩; have BD := Lib.hid (BD.out.trans (b1.mono BD.out.size)))
    | (go_at_call 27; refine (PG.out _ BD.out).mono ?_; rintro e w' ⟨⟨v3, rfl, h3⟩, b1⟩; obtain ⟨p3, c3, e3⟩ := row_slice h3; subst e3; have K3 := Lib.hid (row_cks h3); have BD := Lib.hid (BD.out.trans (b1.mono BD.out.size)))
    | (go_at_call 28; refine (PA.out _ BD.out).mono ?_; rintro e w' ⟨⟨v4, rfl, h4⟩, b1⟩; obtain ⟨p4, c4, e4⟩ := row_slice h4; subst e4; have K4 := Lib.hid (row_lieS h4); have BD := Lib.hid (BD.out.trans (b1.mono BD.out.size))))
  clear x0 x1 x2 x3 x4 x5 x6 x7 x8 RG PG RA PA CB CD SK
  go_wp2_with fail
  conv => arg 2; whnf
  go_wp2_with fail
  exact HN.out _ _ _ _ _ _ _ _ _ _ _ _ _ _ _ _ _ _ _ _ _ _ _ _ _ _ _ _ _ _ _ _ _ _ _ _ _ _ BD.out
end Go.Proofs.YtkenianfpfamcaaGreatDoor
namespace Go.Proofs.YtkenianfpfamcaaGreatDoor
open Go Go.RowKit
set_option maxHeartbeats 16000000

theorem putM2 (w : World) (b k : Nat) (v0 v1 : Value) : ((w.setCell ⟨b, k, none⟩ v0).setCell ⟨b, k + 1, none⟩ v1) = putAll w b k [v0, v1] := rfl
theorem putM11 (w : World) (b k : Nat) (v0 v1 v2 v3 v4 v5 v6 v7 v8 v9 v10 : Value) : (((((((((((w.setCell ⟨b, k, none⟩ v0).setCell ⟨b, k + 1, none⟩ v1).setCell ⟨b, k + 2, none⟩ v2).setCell ⟨b, k + 3, none⟩ v3).setCell ⟨b, k + 4, none⟩ v4).setCell ⟨b, k + 5, none⟩ v5).setCell ⟨b, k + 6, none⟩ v6).setCell ⟨b, k + 7, none⟩ v7).setCell ⟨b, k + 8, none⟩ v8).setCell ⟨b, k + 9, none⟩ v9).setCell ⟨b, k + 10, none⟩ v10) = putAll w b k [v0, v1, v2, v3, v4, v5, v6, v7, v8, v9, v10] := rfl
noncomputable def memFrom14 : Code := ((Tryz.f7.body.bind (fromReg 14)).getD .skip)
set_option maxRecDepth 100000 in
theorem mem_t14 {Q : Exit → Act → World → Prop} {K1 K2 : Act → World → Prop} (hK1 : ∀ a w, Code.wp Tryz.prog (seqTl (seqHd memFrom14)) (Exit.then K2 Q) a w → K1 a w) (hK2 : ∀ a w, Code.wp Tryz.prog (seqTl memFrom14) Q a w → K2 a w) {w wA w4 : World} {b jb mb most n ob xb s1 s2 s3 : Nat} {q : Option Addr} {cap : Nat} {l : List It} {o : OpC} {sa sc : Option Addr} {na ca nc cc : Nat} {vb vd : Value}
    (M : Hid (Mm w b jb mb most n q cap l wA)) (O : Hid (CellsAt wA ob (cellsO o))) (X : Hid (CellsAt wA xb [.string (bs o.host), .string (bs o.path), .bool true, .int .i64 o.now])) (hh : o.host.length ≤ 1073741824) (hp : o.path.length ≤ 1073741824) (hn : n ≤ 549755813888)
    (B4 : Hid (Below wA.heap.size wA w4)) (MK : Hid (Mk w4 wA.heap.size s1 s2 s3 (.slice sa na ca) na (.slice sc nc cc) nc w4)) (hna : na ≤ 3000) (hnc : nc ≤ 3000)
    (RB : Hid (w4.ownsRow s1 tCk 2 vb (getJ (l.map It.k) o.host o.path true o.now).length (rowC (getJ (l.map It.k) o.host o.path true o.now)))) (HB : Hid (∀ g, vb.ownBlock = some g → s1 ≤ g ∧ g < s2)) (RD : Hid (w4.ownsRow s3 tS 11 vd (allI l).length (rowS (allI l))))
    {c0 c1 c2 c5 c6 c13 c14 c15 c16 c17 c18 c19 c20 c21 c22 c23 c24 c25 c26 c27 c28 c29 c30 c31 c32 c33 c34 c35 c36 c37 c38 c39 c40 c41 c42 c43 c44 c45 c46 c47 c48 c49 c50 c51 c52 c53 c54 c55 c56 c57 c58 c59 c60 c61 c62 c63 c64 c65 c66 c67 c68 c69 c70 c71 c72 c73 c74 c75 c76 c77 c78 c79 c80 c81 c82 c83 c84 c85 c86 c87 c88 c89 c90 c91 c92 c93 c94 c95 c96 c97 c98 c99 c100 c101 c102 c103 c104 c105 c106 c107 c108 c109 c110 c111 c112 c113 c114 c115 c116 c117 c118 c119 c120 c121 c122 c123 c124 c125 c126 c127 c128 c129 c130 c131 c132 c133 c134 c135 c136 c137 c138 c139 c140 c141 c142 c143 c144 c145 c146 c147 c148 c149 c150 c151 c152 c153 c154 c155 c156 c157 : Value}
    (hnorm : ∀ (d2 d9 d11 d13 d14 d90 d91 d92 d93 d94 d95 d96 d97 d98 d99 d100 d101 d102 d103 d104 d105 d106 d107 d108 d109 d110 d111 d112 d113 d114 d115 d116 d117 d118 d119 d120 d121 d122 d123 d124 d125 d126 d127 d128 d129 d130 d131 d132 d133 d134 d135 d136 d137 d138 d139 d140 d141 d142 d143 d144 d145 d146 d147 d148 d149 d150 d151 d152 d153 d154 d155 d156 : Value) (w0 : World), Below wA.heap.size wA w0 → Q .normal ⟨List.toArray (c0 :: c1 :: d2 :: .pointer (some ⟨jb, 0, none⟩) :: .pointer (some ⟨b, 0, none⟩) :: c5 :: c6 :: .pointer (some ⟨ob, 0, none⟩) :: .pointer (some ⟨xb, 0, none⟩) :: d9 :: vb :: d11 :: vd :: d13 :: d14 :: c15 :: c16 :: c17 :: c18 :: c19 :: c20 :: c21 :: c22 :: c23 :: c24 :: c25 :: c26 :: c27 :: c28 :: c29 :: c30 :: c31 :: c32 :: c33 :: c34 :: c35 :: c36 :: c37 :: c38 :: c39 :: c40 :: c41 :: c42 :: c43 :: c44 :: c45 :: c46 :: c47 :: c48 :: c49 :: c50 :: c51 :: c52 :: c53 :: c54 :: c55 :: c56 :: c57 :: c58 :: c59 :: c60 :: c61 :: c62 :: c63 :: c64 :: c65 :: c66 :: c67 :: c68 :: c69 :: c70 :: c71 :: c72 :: c73 :: c74 :: c75 :: c76 :: c77 :: c78 :: c79 :: c80 :: c81 :: c82 :: c83 :: c84 :: c85 :: c86 :: c87 :: c88 :: c89 :: d90 :: d91 :: d92 :: d93 :: d94 :: d95 :: d96 :: d97 :: d98 :: d99 :: d100 :: d101 :: d102 :: d103 :: d104 :: d105 :: d106 :: d107 :: d108 :: d109 :: d110 :: d111 :: d112 :: d113 :: d114 :: d115 :: d116 :: d117 :: d118 :: d119 :: d120 :: d121 :: d122 :: d123 :: d124 :: d125 :: d126 :: d127 :: d128 :: d129 :: d130 :: d131 :: d132 :: d133 :: d134 :: d135 :: d136 :: d137 :: d138 :: d139 :: d140 :: d141 :: d142 :: d143 :: d144 :: d145 :: d146 :: d147 :: d148 :: d149 :: d150 :: d151 :: d152 :: d153 :: d154 :: d155 :: d156 :: c157 :: []), []⟩ w0) :
    Code.wp Tryz.prog (seqHd (seqHd memFrom14)) (Exit.then K1 (Exit.then K2 Q)) ⟨List.toArray (c0 :: c1 :: c2 :: .pointer (some ⟨jb, 0, none⟩) :: .pointer (some ⟨b, 0, none⟩) :: c5 :: c6 :: .pointer (some ⟨ob, 0, none⟩) :: .pointer (some ⟨xb, 0, none⟩) :: .slice sa na ca :: vb :: .slice sc nc cc :: vd :: c13 :: c14 :: c15 :: c16 :: c17 :: c18 :: c19 :: c20 :: c21 :: c22 :: c23 :: c24 :: c25 :: c26 :: c27 :: c28 :: c29 :: c30 :: c31 :: c32 :: c33 :: c34 :: c35 :: c36 :: c37 :: c38 :: c39 :: c40 :: c41 :: c42 :: c43 :: c44 :: c45 :: c46 :: c47 :: c48 :: c49 :: c50 :: c51 :: c52 :: c53 :: c54 :: c55 :: c56 :: c57 :: c58 :: c59 :: c60 :: c61 :: c62 :: c63 :: c64 :: c65 :: c66 :: c67 :: c68 :: c69 :: c70 :: c71 :: c72 :: c73 :: c74 :: c75 :: c76 :: c77 :: c78 :: c79 :: c80 :: c81 :: c82 :: c83 :: c84 :: c85 :: c86 :: c87 :: c88 :: c89 :: c90 :: c91 :: c92 :: c93 :: c94 :: c95 :: c96 :: c97 :: c98 :: c99 :: c100 :: c101 :: c102 :: c103 :: c104 :: c105 :: c106 :: c107 :: c108 :: c109 :: c110 :: c111 :: c112 :: c113 :: c114 :: c115 :: c116 :: c117 :: c118 :: c119 :: c120 :: c121 :: c122 :: c123 :: c124 :: c125 :: c126 :: c127 :: c128 :: c129 :: c130 :: c131 :: c132 :: c133 :: c134 :: c135 :: c136 :: c137 :: c138 :: c139 :: c140 :: c141 :: c142 :: c143 :: c144 :: c145 :: c146 :: c147 :: c148 :: c149 :: c150 :: c151 :: c152 :: c153 :: c154 :: c155 :: c156 :: c157 :: []), []⟩ w4 := by
  obtain ⟨i1, ci, cz0, cz1, cz2⟩ := info_parts infoCk
  obtain ⟨i2, di, dz0, dz1, dz2⟩ := info_parts infoS
  have HN := Lib.hid hnorm
  clear hnorm
  conv => arg 2; whnf
  go_wp2_with fail
  conv => arg 2; whnf
  go_wp2_with fail
  go_loopw [13, 92] (fun _ i wr => ∃ k : Nat, k ≤ na ∧ i = .int .i64 k ∧ Hid (Mk w4 wA.heap.size s1 s2 s3 (.slice sa na ca) na (.slice sc nc cc) nc wr)) (fun _ i _ => na - (intOf i).toNat)
  case atStart => exact ⟨0, Nat.zero_le _, rfl, MK⟩
  clear MK
  case round =>
  obtain ⟨k, hk, rfl, MK⟩ := hrel
  obtain ⟨wq, hwq⟩ : ∃ wq, wq = wr := ⟨wr, rfl⟩
  subst hwq
  by_cases hlt : k < na
  · obtain ⟨xs, hx⟩ := MK.out.a
    obtain ⟨g, hg, _⟩ := row_zero hx (by omega)
    subst hg
    have hxl : xs.length = na * 2 := hx.1
    have hkn : k * 2 + 2 ≤ na * 2 := by rw [← Nat.succ_mul]; exact Nat.mul_le_mul_right _ hlt
    have MP := Lib.hid (MK.out.putA [.string ⟨#[109, 97, 114, 107]⟩, .string ⟨#[]⟩] (k * 2))
    obtain ⟨e0, z0⟩ : ∃ u, wq.cell? ⟨g, k * 2, none⟩ = some u := ⟨_, (hx.cellAt (k * 2) (by omega)).trans (List.getElem?_eq_getElem (by omega))⟩
    obtain ⟨e1, z1⟩ : ∃ u, wq.cell? ⟨g, k * 2 + 1, none⟩ = some u := ⟨_, (hx.cellAt (k * 2 + 1) (by omega)).trans (List.getElem?_eq_getElem (by omega))⟩
    have y0 := hx.frozenAt (k * 2)
    have y1 := hx.frozenAt (k * 2 + 1)
    clear MK hx hxl hkn
    go_wp2_with fail
    all_goals (try (exfalso; omega))
    rw [putM2]
    generalize putAll wq g (k * 2) _ = wn at MP ⊢
    clear z0 z1 y0 y1
    (try go_wp2_with fail)
    go_roundw
    case rel => exact ⟨k + 1, by omega, by go_num, MP⟩
    case measure => simp [intOf]; omega
  ·
    go_wp2_with fail
    all_goals (try (exfalso; omega))
    conv => arg 2; whnf
    go_wp2_with fail
    go_loopw [14, 102] (fun _ i wr => ∃ k : Nat, k ≤ nc ∧ i = .int .i64 k ∧ Hid (Mk w4 wA.heap.size s1 s2 s3 (.slice sa na ca) na (.slice sc nc cc) nc wr)) (fun _ i _ => nc - (intOf i).toNat)
    case atStart => exact ⟨0, Nat.zero_le _, rfl, MK⟩
    clear MK
    case round =>
    obtain ⟨k, hk, rfl, MK⟩ := hrel
    obtain ⟨wq, hwq⟩ : ∃ wq, wq = wr := ⟨wr, rfl⟩
    subst hwq
    by_cases hlt : k < nc
    · obtain ⟨xs, hx⟩ := MK.out.c
      obtain ⟨g, hg, _⟩ := row_zero hx (by omega)
      subst hg
      have hxl : xs.length = nc * 11 := hx.1
      have hkn : k * 11 + 11 ≤ nc * 11 := by rw [← Nat.succ_mul]; exact Nat.mul_le_mul_right _ hlt
      have MP := Lib.hid (MK.out.putC [.string ⟨#[109, 97, 114, 107]⟩, .string ⟨#[]⟩, .string ⟨#[]⟩, .string ⟨#[]⟩, .int .i64 0, .bool false, .int .i64 0, .bool false, .bool false, .bool false, .int .i64 0] (k * 11))
      obtain ⟨e0, z0⟩ : ∃ u, wq.cell? ⟨g, k * 11, none⟩ = some u := ⟨_, (hx.cellAt (k * 11) (by omega)).trans (List.getElem?_eq_getElem (by omega))⟩
      obtain ⟨e1, z1⟩ : ∃ u, wq.cell? ⟨g, k * 11 + 1, none⟩ = some u := ⟨_, (hx.cellAt (k * 11 + 1) (by omega)).trans (List.getElem?_eq_getElem (by omega))⟩
      obtain ⟨e2, z2⟩ : ∃ u, wq.cell? ⟨g, k * 11 + 2, none⟩ = some u := ⟨_, (hx.cellAt (k * 11 + 2) (by omega)).trans (List.getElem?_eq_getElem (by omega))⟩
      obtain ⟨e3, z3⟩ : ∃ u, wq.cell? ⟨g, k * 11 + 3, none⟩ = some u := ⟨_, (hx.cellAt (k * 11 + 3) (by omega)).trans (List.getElem?_eq_getElem (by omega))⟩
      obtain ⟨e4, z4⟩ : ∃ u, wq.cell? ⟨g, k * 11 + 4, none⟩ = some u := ⟨_, (hx.cellAt (k * 11 + 4) (by omega)).trans (List.getElem?_eq_getElem (by omega))⟩
      obtain ⟨e5, z5⟩ : ∃ u, wq.cell? ⟨g, k * 11 + 5, none⟩ = some u := ⟨_, (hx.cellAt (k * 11 + 5) (by omega)).trans (List.getElem?_eq_getElem (by omega))⟩
      obtain ⟨e6, z6⟩ : ∃ u, wq.cell? ⟨g, k * 11 + 6, none⟩ = some u := ⟨_, (hx.cellAt (k * 11 + 6) (by omega)).trans (List.getElem?_eq_getElem (by omega))⟩
      obtain ⟨e7, z7⟩ : ∃ u, wq.cell? ⟨g, k * 11 + 7, none⟩ = some u := ⟨_, (hx.cellAt (k * 11 + 7) (by omega)).trans (List.getElem?_eq_getElem (by omega))⟩
      obtain ⟨e8, z8⟩ : ∃ u, wq.cell? ⟨g, k * 11 + 8, none⟩ = some u := ⟨_, (hx.cellAt (k * 11 + 8) (by omega)).trans (List.getElem?_eq_getElem (by omega))⟩
      obtain ⟨e9, z9⟩ : ∃ u, wq.cell? ⟨g, k * 11 + 9, none⟩ = some u := ⟨_, (hx.cellAt (k * 11 + 9) (by omega)).trans (List.getElem?_eq_getElem (by omega))⟩
      obtain ⟨e10, z10⟩ : ∃ u, wq.cell? ⟨g, k * 11 + 10, none⟩ = some u := ⟨_, (hx.cellAt (k * 11 + 10) (by omega)).trans (List.getElem?_eq_getElem (by omega))⟩
      have y0 := hx.frozenAt (k * 11)
      have y1 := hx.frozenAt (k * 11 + 1)
      have y2 := hx.frozenAt (k * 11 + 2)
      have y3 := hx.frozenAt (k * 11 + 3)
      have y4 := hx.frozenAt (k * 11 + 4)
      have y5 := hx.frozenAt (k * 11 + 5)
      have y6 := hx.frozenAt (k * 11 + 6)
      have y7 := hx.frozenAt (k * 11 + 7)
      have y8 := hx.frozenAt (k * 11 + 8)
      have y9 := hx.frozenAt (k * 11 + 9)
      have y10 := hx.frozenAt (k * 11 + 10)
      clear MK hx hxl hkn
      go_wp2_with fail
      all_goals (try (exfalso; omega))
      rw [putM11]
      generalize putAll wq g (k * 11) _ = wn at MP ⊢
      clear z0 z1 z2 z3 z4 z5 z6 z7 z8 z9 z10 y0 y1 y2 y3 y4 y5 y6 y7 y8 y9 y10
      (try go_wp2_with fail)
      go_roundw
      case rel => exact ⟨k + 1, by omega, by go_num, MP⟩
      case measure => simp [intOf]; omega
    ·
      go_wp2_with fail
      all_goals (try (exfalso; omega))
      have MK2 : Hid (Mk w4 wA.heap.size s1 s2 s3 (.slice sa (na + 0) ca) (na + 0) (.slice sc (nc + 0) cc) (nc + 0) wq) := MK
      clear MK
      go_loopw [9, 11, 110] (fun V9 V11 i wr => ∃ (k : Nat) (sa' : Option Addr) (ca' : Nat) (sc' : Option Addr) (cc' : Nat), k ≤ 9 ∧ i = .int .i64 k ∧ V9 = .slice sa' (na + k : Nat) ca' ∧ V11 = .slice sc' (nc + k : Nat) cc' ∧ Hid (Mk w4 wA.heap.size s1 s2 s3 (.slice sa' (na + k) ca') (na + k) (.slice sc' (nc + k) cc') (nc + k) wr)) (fun _ _ i _ => 9 - (intOf i).toNat)
      case atStart => exact ⟨0, sa, ca, sc, cc, by omega, rfl, rfl, rfl, MK2⟩
      clear MK2
      case round =>
      obtain ⟨k, sa', ca', sc', cc', hk9, rfl, rfl, rfl, MK⟩ := hrel
      obtain ⟨wg, hwg⟩ : ∃ wg, wg = wr := ⟨wr, rfl⟩
      subst hwg
      by_cases hlt9 : k < 9
      · have hd9 : decide ((k : Int) < 9) = true := decide_eq_true (by omega)
        obtain ⟨xs, hx⟩ := MK.out.a
        have hbase : wA.heap.size ≤ wg.heap.size := Nat.le_trans B4.out.size MK.out.k.size
        go_wp2_with (at_builtin; refine appendK (by rfl) _ _ tCks (by rfl) wA.heap.size tCk i1 (.agg #[.string ⟨#[]⟩, .string ⟨#[]⟩]) 2 32 Tryz.underlying22 ci cz0 cz1 cz2 rfl (by decide) hx (by rfl) [.string ⟨#[103, 114, 111, 119, 110]⟩, .string ⟨#[]⟩] rfl (by intro u hu; simp only [List.mem_cons, List.not_mem_nil, or_false] at hu; rcases hu with rfl | rfl <;> rfl) (by rfl) (by unfold maxLen; omega) (by omega) hbase ?_)
        all_goals (try (exfalso; omega))
        intro g5 c5 w5 _ ho5 _ hat5 hk5
        have M5 := Lib.hid (MK.out.growA ho5 hat5 hk5)
        clear ho5 hat5 hk5 MK hx hbase
        obtain ⟨ys, hy⟩ := M5.out.c
        have hbase : s2 ≤ w5.heap.size := by have := M5.out.k.size; have := M5.out.le; omega
        go_wp2_with (at_builtin; refine appendK (by rfl) _ _ tSs (by rfl) s2 tS i2 (.agg #[.string ⟨#[]⟩, .string ⟨#[]⟩, .string ⟨#[]⟩, .string ⟨#[]⟩, .int .i64 0, .bool false, .int .i64 0, .bool false, .bool false, .bool false, .int .i64 0]) 11 104 Tryz.underlying68 di dz0 dz1 dz2 rfl (by decide) hy (by rfl) [.string ⟨#[103, 114, 111, 119, 110]⟩, .string ⟨#[]⟩, .string ⟨#[]⟩, .string ⟨#[]⟩, .int .i64 0, .bool false, .int .i64 0, .bool false, .bool false, .bool false, .int .i64 0] rfl (by intro u hu; simp only [List.mem_cons, List.not_mem_nil, or_false] at hu; rcases hu with rfl | rfl | rfl | rfl | rfl | rfl | rfl | rfl | rfl | rfl | rfl <;> rfl) (by rfl) (by unfold maxLen; omega) (by omega) hbase ?_)
        all_goals (try (exfalso; omega))
        intro g6 c6 w6 _ ho6 _ hat6 hk6
        have M6 := Lib.hid (M5.out.growC ho6 hat6 hk6)
        clear ho6 hat6 hk6 M5 hy hbase
        go_wp2_with fail
        go_roundw
        case rel => exact ⟨k + 1, some ⟨g5, 0, none⟩, c5, some ⟨g6, 0, none⟩, c6, by omega, by go_num, rfl, rfl, M6⟩
        case measure => simp [intOf]; omega
      · have hd9 : decide ((k : Int) < 9) = false := decide_eq_false (by omega)
        have BQ := Lib.hid (B4.out.trans MK.out.low)
        have RB2 := Lib.hid (MK.out.keep RB.out (fun g hg => Or.inl (HB.out g hg)))
        have RD2 := Lib.hid (MK.out.keep RD.out (fun g hg => Or.inr (World.ownsRow.lt RD.out g hg).1))
        have M9 := Lib.hid (M.out.next BQ.out)
        have O9 := Lib.hid (O.out.next BQ.out)
        have X9 := Lib.hid (X.out.next BQ.out)
        clear MK RB RD M O X HB B4
        go_wp2_with fail
        conv => arg 2; whnf
        go_upto_region 29 with fail
        refine mem_t29 ?hK M9 O9 X9 hh hp hn RB2 RD2 ?_
        case hK => assumption
        intro e2 e121 e122 e123 e124 e125 e126 e127 e128 e129 e130 e131 e132 e133 e134 e135 e136 e137 e138 e139 e140 e141 e142 e143 e144 e145 e146 e147 e148 e149 e150 e151 e152 e153 e154 e155 e156 w0 hb0
        exact HN.out _ _ _ _ _ _ _ _ _ _ _ _ _ _ _ _ _ _ _ _ _ _ _ _ _ _ _ _ _ _ _ _ _ _ _ _ _ _ _ _ _ _ _ _ _ _ _ _ _ _ _ _ _ _ _ _ _ _ _ _ _ _ _ _ _ _ _ _ _ _ _ _ _ (BQ.out.trans (hb0.mono BQ.out.size))
end Go.Proofs.YtkenianfpfamcaaGreatDoor
namespace Go.Proofs.YtkenianfpfamcaaGreatDoor
open Go Go.RowKit
set_option maxHeartbeats 16000000

noncomputable def memFrom11 : Code := ((Tryz.f7.body.bind (fromReg 11)).getD .skip)
set_option maxRecDepth 100000 in
theorem mem_t11 {Q : Exit → Act → World → Prop} {K : Act → World → Prop} (hK : ∀ a w, Code.wp Tryz.prog (seqTl memFrom11) Q a w → K a w) {w w4 : World} {b jb mb most n ob : Nat} {q : Option Addr} {cap : Nat} {l : List It} {nm v pp d : List UInt8} {ma : Int} {hm : Bool} {ex : Int} {he sc ht : Bool} {sm kd : Int} {host path : List UInt8} {sec : Bool} {now : Int}
    (M : Hid (Mm w b jb mb most n q cap l w4)) (KO : Hid (CellsAt w4 ob (cellsO (⟨kd, ⟨nm, v, pp, d, ma, hm, ex, he, sc, ht, sm⟩, host, path, sec, now⟩ : OpC)))) (hh : host.length ≤ 1073741824) (hp : path.length ≤ 1073741824) (hn : n ≤ 549755813888)
    {c0 c1 c2 c5 c6 c8 c9 c10 c11 c12 c13 c14 c15 c16 c17 c18 c19 c20 c21 c22 c23 c24 c25 c26 c27 c28 c29 c30 c31 c32 c33 c34 c35 c36 c37 c38 c39 c40 c41 c42 c43 c44 c45 c46 c47 c48 c49 c50 c51 c52 c53 c54 c55 c56 c57 c58 c59 c60 c61 c62 c63 c64 c65 c66 c67 c68 c69 c70 c71 c72 c73 c74 c75 c76 c77 c78 c79 c80 c81 c82 c83 c84 c85 c86 c87 c88 c89 c90 c91 c92 c93 c94 c95 c96 c97 c98 c99 c100 c101 c102 c103 c104 c105 c106 c107 c108 c109 c110 c111 c112 c113 c114 c115 c116 c117 c118 c119 c120 c121 c122 c123 c124 c125 c126 c127 c128 c129 c130 c131 c132 c133 c134 c135 c136 c137 c138 c139 c140 c141 c142 c143 c144 c145 c146 c147 c148 c149 c150 c151 c152 c153 c154 c155 c156 c157 : Value}
    (hnorm : ∀ (d2 d8 d9 d10 d11 d12 d13 d14 d63 d64 d65 d66 d67 d68 d69 d70 d71 d72 d73 d74 d75 d76 d77 d78 d79 d80 d81 d82 d83 d84 d85 d86 d87 d88 d89 d90 d91 d92 d93 d94 d95 d96 d97 d98 d99 d100 d101 d102 d103 d104 d105 d106 d107 d108 d109 d110 d111 d112 d113 d114 d115 d116 d117 d118 d119 d120 d121 d122 d123 d124 d125 d126 d127 d128 d129 d130 d131 d132 d133 d134 d135 d136 d137 d138 d139 d140 d141 d142 d143 d144 d145 d146 d147 d148 d149 d150 d151 d152 d153 d154 d155 d156 : Value) (w0 : World), Below w4.heap.size w4 w0 → Q .normal ⟨List.toArray (c0 :: c1 :: d2 :: .pointer (some ⟨jb, 0, none⟩) :: .pointer (some ⟨b, 0, none⟩) :: c5 :: c6 :: .pointer (some ⟨ob, 0, none⟩) :: d8 :: d9 :: d10 :: d11 :: d12 :: d13 :: d14 :: c15 :: c16 :: c17 :: c18 :: c19 :: c20 :: c21 :: c22 :: c23 :: c24 :: c25 :: c26 :: c27 :: c28 :: c29 :: c30 :: c31 :: c32 :: c33 :: c34 :: c35 :: c36 :: c37 :: c38 :: c39 :: c40 :: c41 :: c42 :: c43 :: c44 :: c45 :: c46 :: c47 :: c48 :: c49 :: c50 :: c51 :: c52 :: c53 :: c54 :: c55 :: c56 :: c57 :: c58 :: c59 :: c60 :: c61 :: c62 :: d63 :: d64 :: d65 :: d66 :: d67 :: d68 :: d69 :: d70 :: d71 :: d72 :: d73 :: d74 :: d75 :: d76 :: d77 :: d78 :: d79 :: d80 :: d81 :: d82 :: d83 :: d84 :: d85 :: d86 :: d87 :: d88 :: d89 :: d90 :: d91 :: d92 :: d93 :: d94 :: d95 :: d96 :: d97 :: d98 :: d99 :: d100 :: d101 :: d102 :: d103 :: d104 :: d105 :: d106 :: d107 :: d108 :: d109 :: d110 :: d111 :: d112 :: d113 :: d114 :: d115 :: d116 :: d117 :: d118 :: d119 :: d120 :: d121 :: d122 :: d123 :: d124 :: d125 :: d126 :: d127 :: d128 :: d129 :: d130 :: d131 :: d132 :: d133 :: d134 :: d135 :: d136 :: d137 :: d138 :: d139 :: d140 :: d141 :: d142 :: d143 :: d144 :: d145 :: d146 :: d147 :: d148 :: d149 :: d150 :: d151 :: d152 :: d153 :: d154 :: d155 :: d156 :: c157 :: []), []⟩ w0) :
    Code.wp Tryz.prog (seqHd memFrom11) (Exit.then K Q) ⟨List.toArray (c0 :: c1 :: c2 :: .pointer (some ⟨jb, 0, none⟩) :: .pointer (some ⟨b, 0, none⟩) :: c5 :: c6 :: .pointer (some ⟨ob, 0, none⟩) :: c8 :: c9 :: c10 :: c11 :: c12 :: c13 :: c14 :: c15 :: c16 :: c17 :: c18 :: c19 :: c20 :: c21 :: c22 :: c23 :: c24 :: c25 :: c26 :: c27 :: c28 :: c29 :: c30 :: c31 :: c32 :: c33 :: c34 :: c35 :: c36 :: c37 :: c38 :: c39 :: c40 :: c41 :: c42 :: c43 :: c44 :: c45 :: c46 :: c47 :: c48 :: c49 :: c50 :: c51 :: c52 :: c53 :: c54 :: c55 :: c56 :: c57 :: c58 :: c59 :: c60 :: c61 :: c62 :: c63 :: c64 :: c65 :: c66 :: c67 :: c68 :: c69 :: c70 :: c71 :: c72 :: c73 :: c74 :: c75 :: c76 :: c77 :: c78 :: c79 :: c80 :: c81 :: c82 :: c83 :: c84 :: c85 :: c86 :: c87 :: c88 :: c89 :: c90 :: c91 :: c92 :: c93 :: c94 :: c95 :: c96 :: c97 :: c98 :: c99 :: c100 :: c101 :: c102 :: c103 :: c104 :: c105 :: c106 :: c107 :: c108 :: c109 :: c110 :: c111 :: c112 :: c113 :: c114 :: c115 :: c116 :: c117 :: c118 :: c119 :: c120 :: c121 :: c122 :: c123 :: c124 :: c125 :: c126 :: c127 :: c128 :: c129 :: c130 :: c131 :: c132 :: c133 :: c134 :: c135 :: c136 :: c137 :: c138 :: c139 :: c140 :: c141 :: c142 :: c143 :: c144 :: c145 :: c146 :: c147 :: c148 :: c149 :: c150 :: c151 :: c152 :: c153 :: c154 :: c155 :: c156 :: c157 :: []), []⟩ w4 := by
  have HN := Lib.hid hnorm
  have hlm := M.out.j.most
  have hll := M.out.len
  have hgl := getJ_len (l.map It.k) host path true now
  rw [List.length_map] at hgl
  have hal : (allI l).length = l.length := by rw [allI_k]; unfold allJ; rw [List.length_map, List.length_map]
  have o12 := KO.out.at 12 _ rfl
  have o13 := KO.out.at 13 _ rfl
  have o15 := KO.out.at 15 _ rfl
  have KX := Lib.hid (CellsAt.first w4 [.string (bs host), .string (bs path), .bool true, .int .i64 now] tLn)
  have bx := below_put2 (w := w4) (cs := #[.string (bs host), .string (bs path), .bool true, .int .i64 now]) (T := tLn)
  have MA := Lib.hid (M.out.next bx)
  have KA := Lib.hid (KO.out.next bx)
  have BX := Lib.hid bx
  clear hnorm M KO bx
  conv => arg 2; whnf
  go_wp2_with fail
  conv => arg 2; whnf
  go_upto_region 12 with fail
  obtain ⟨xb, hxb⟩ := name_it w4.heap.size
  have HXB : Hid (w4.heap.size = xb) := hxb.out
  rw [hxb.out] at KX ⊢
  clear hxb o12 o13 o15
  generalize w4.alloc _ = wA at KX MA KA BX ⊢
  have o12 : wA.cell? ⟨ob, 12, none⟩ = some (.string (bs host)) := KA.out.at 12 _ rfl
  have o13 : wA.cell? ⟨ob, 13, none⟩ = some (.string (bs path)) := KA.out.at 13 _ rfl
  have o15 : wA.cell? ⟨ob, 15, none⟩ = some (.int .i64 now) := KA.out.at 15 _ rfl
  have SK : Hid (∀ W, Below wA.heap.size wA W → W.cell? ⟨ob, 12, none⟩ = some (.string (bs host)) ∧ W.cell? ⟨ob, 13, none⟩ = some (.string (bs path)) ∧ W.cell? ⟨ob, 15, none⟩ = some (.int .i64 now)) := fun W hW => ⟨(KA.out.next hW).at 12 _ rfl, (KA.out.next hW).at 13 _ rfl, (KA.out.next hW).at 15 _ rfl⟩
  have BD := Lib.hid (Below.refl wA.heap.size wA).drew
  have HDS : Hid (wA.drew.heap.size = wA.heap.size) := rfl
  have PG := Lib.hid (fun W (hW : Below wA.heap.size wA W) => get_any W jb mb most n l (bs host) (bs path) true now (MA.out.j.next_ hW) (by omega) (by omega) (by rw [size_bs]; exact hh) (by rw [size_bs]; exact hp))
  simp only [L_bs] at PG
  have PA := Lib.hid (fun W (hW : Below wA.heap.size wA W) => all_any W jb mb most n l (MA.out.j.next_ hW) (by omega) (by omega))
  unfold ptrV at PG PA
  obtain ⟨G, hG⟩ := name_it (getJ (l.map It.k) host path true now)
  have HG : Hid (getJ (l.map It.k) host path true now = G) := hG
  rw [hG.out] at PG hgl
  obtain ⟨AL, hAL⟩ := name_it (allI l)
  have HAL : Hid (allI l = AL) := hAL
  rw [hAL.out] at PA hal
  have HL : Hid (G.length ≤ 3000 ∧ AL.length ≤ 3000) := by unfold Hid; omega
  have FIRST : Hid True := trivial
  clear hG hAL hgl hal
  go_region_held3 (fun W => W.cell? ⟨ob, 12, none⟩ = some (.string (bs host)) ∧ W.cell? ⟨ob, 13, none⟩ = some (.string (bs path)) ∧ W.cell? ⟨ob, 15, none⟩ = some (.int .i64 now))
    (exact SK.out _ BD.out)
    (first
    | (go_at_call 27; clear FIRST; refine (PG.out _ BD.out).mono ?_; rintro e w1 ⟨⟨v1, rfl, h1⟩, b1⟩; have R1 := Lib.hid h1; have B1 := Lib.hid b1; have BD := Lib.hid (BD.out.trans (b1.mono BD.out.size)))
    | (go_at_call 27; refine (PG.out _ BD.out).mono ?_; rintro e w2 ⟨⟨v2, rfl, h2⟩, b2⟩; have R2 := Lib.hid h2; have B2 := Lib.hid b2; have BD := Lib.hid (BD.out.trans (b2.mono BD.out.size))))
  clear o12 o13 o15 SK PG
  go_wp2_with fail
  refine (PA.out _ BD.out).mono ?_; rintro e w3 ⟨⟨v3, rfl, h3⟩, b3⟩
  have R3 := Lib.hid h3
  have B3 := Lib.hid b3
  have D3 := Lib.hid (BD.out.trans (b3.mono BD.out.size))
  clear h1 b1 h2 b2 h3 b3
  go_wp2_with fail
  refine (PA.out _ D3.out).mono ?_; rintro e w5 ⟨⟨v5, rfl, h5⟩, b5⟩
  have R5 := Lib.hid h5
  have B5 := Lib.hid b5
  have D5 := Lib.hid (D3.out.trans (b5.mono D3.out.size))
  clear h5 b5 PA
  -- the four rows, all in the world of the last
  have c23 := B3.out
  have R1b : Hid (w5.ownsRow wA.heap.size tCk 2 v1 G.length (rowC G)) := by
    have h1 := row_kept R1.out (fun g hg => B2.out.block g (World.ownsRow.lt R1.out g hg).2)
    have h2 := row_kept h1 (fun g hg => B3.out.block g (World.ownsRow.lt h1 g hg).2)
    exact row_kept h2 (fun g hg => B5.out.block g (World.ownsRow.lt h2 g hg).2)
  have R2b : Hid (w5.ownsRow w1.heap.size tCk 2 v2 G.length (rowC G)) := by
    have h2 := row_kept R2.out (fun g hg => B3.out.block g (World.ownsRow.lt R2.out g hg).2)
    exact row_kept h2 (fun g hg => B5.out.block g (World.ownsRow.lt h2 g hg).2)
  have R3b : Hid (w5.ownsRow w2.heap.size tS 11 v3 AL.length (rowS AL)) := row_kept R3.out (fun g hg => B5.out.block g (World.ownsRow.lt R3.out g hg).2)
  have R2u : Hid (∀ g, v2.ownBlock = some g → w1.heap.size ≤ g ∧ g < w2.heap.size) := fun g hg => World.ownsRow.lt R2.out g hg
  have hs1 : wA.heap.size ≤ w1.heap.size := B1.out.size
  have MK := Lib.hid (Mk.first R1.out R1b.out R3.out R3b.out hs1 B2.out.size B3.out.size B5.out.size)
  obtain ⟨sa, ca, ha⟩ := row_slice R1b.out
  obtain ⟨sc, cc, hc⟩ := row_slice R3b.out
  subst ha
  subst hc
  clear R1 R2 R3 B1 B2 B3 B5 D3 BD c23 HDS R1b R3b hs1
  go_upto_region 14 with fail
  refine mem_t14 ?hK1 ?hK2 MA KA KX hh hp hn D5 MK (by have := HL.out; omega) (by have := HL.out; omega) (by rw [HG.out]; exact R2b) R2u (by rw [HAL.out]; exact R5) ?_
  case hK1 => assumption
  case hK2 => assumption
  intro e2 e9 e11 e13 e14 e90 e91 e92 e93 e94 e95 e96 e97 e98 e99 e100 e101 e102 e103 e104 e105 e106 e107 e108 e109 e110 e111 e112 e113 e114 e115 e116 e117 e118 e119 e120 e121 e122 e123 e124 e125 e126 e127 e128 e129 e130 e131 e132 e133 e134 e135 e136 e137 e138 e139 e140 e141 e142 e143 e144 e145 e146 e147 e148 e149 e150 e151 e152 e153 e154 e155 e156 w0 hb0
  exact HN.out _ _ _ _ _ _ _ _ _ _ _ _ _ _ _ _ _ _ _ _ _ _ _ _ _ _ _ _ _ _ _ _ _ _ _ _ _ _ _ _ _ _ _ _ _ _ _ _ _ _ _ _ _ _ _ _ _ _ _ _ _ _ _ _ _ _ _ _ _ _ _ _ _ _ _ _ _ _ _ _ _ _ _ _ _ _ _ _ _ _ _ _ _ _ _ _ _ _ _ _ _ _ _ (BX.out.trans (hb0.mono BX.out.size))
end Go.Proofs.YtkenianfpfamcaaGreatDoor
