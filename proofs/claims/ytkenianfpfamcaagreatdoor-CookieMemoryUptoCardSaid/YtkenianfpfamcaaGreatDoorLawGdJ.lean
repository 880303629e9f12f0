/- CookieMemory: a cookie is set in a round, in the document's jar and in the program's. -/
import Derived.Test.YtkenianfpfamcaaGreatDoorLg
import Derived.Test.YtkenianfpfamcaaGreatDoorDocPJ
namespace Go.Proofs.YtkenianfpfamcaaGreatDoor
open Go Go.RowKit
set_option maxHeartbeats 16000000

theorem Lies.keeps {α : Type} {f : α → List Value} {n : Nat} {S : Nat → Prop} {w w' : World} {p : Option Addr} {l : List α} (h : Lies f n w p l) (K : Keeps S w w') (hq : ∀ g off, p = some ⟨g, off, none⟩ → ¬ S g) : Lies f n w' p l := by
  constructor
  rcases h.mem with h | ⟨g, off, h1, h2, h3⟩
  · exact Or.inl h
  · exact Or.inr ⟨g, off, h1, Nat.lt_of_lt_of_le h2 K.size, fun i hi j hj => by rw [cell_of_block (K.block g h2 (hq g off h1))]; exact h3 i hi j hj⟩
theorem setJ_len {most : Nat} {l : List Kp} (h : l.length ≤ most) (c : SetC) (host path : List UInt8) (sec : Bool) (now : Int) : (setJ most l c host path sec now).length ≤ most := by
  unfold setJ
  split
  · exact trim_length most now _
  · exact h
/-- a cookie's block is not the document's box -/
theorem box_ne {wx : World} {b jb mb most n : Nat} {q : Value} {l : List It} {m : Int} (hb : CellsAt wx b [.int .i64 m, q]) (hj : JarAt wx jb mb most n l) : ∀ x ∈ l, x.blk ≠ b := by
  intro x hx e
  have h1 := hb.at 0 _ rfl
  have h2 := (hj.its x hx).at 0 (.string (bs x.k.c.name)) rfl
  rw [e, h1] at h2
  injection h2 with h2
  cases h2
/-- the document's jar behind a setting, in its box; the program's as it was -/
structure Half (w : World) (b jb mb most n : Nat) (q : Option Addr) (cap : Nat) (l : List It) (kl : List Kp) (wx : World) : Prop where
  box : CellsAt wx b [.int .i64 most, .slice q kl.length cap]
  j : JarAt wx jb mb most n l
  d : KpL wx q kl
  cap : kl.length ≤ cap
  bl : Below w.heap.size w wx
  low : w.heap.size ≤ b ∧ w.heap.size ≤ jb ∧ w.heap.size ≤ mb ∧ b ≠ jb ∧ b ≠ mb
  qj : ∀ g off, q = some ⟨g, off, none⟩ → g ≠ jb ∧ g ≠ mb ∧ g ≠ b
/-- into the box -/
theorem Mm.half {w : World} {b jb mb most n : Nat} {q : Option Addr} {cap : Nat} {l : List It} {wx w3 : World} {q3 : Option Addr} {c3 : Nat} {kl : List Kp} (h : Mm w b jb mb most n q cap l wx) (hb : Below wx.heap.size wx w3) (hl : KpL w3 q3 kl) (hc : kl.length ≤ c3) (hq : q3 = q ∨ ∀ g off, q3 = some ⟨g, off, none⟩ → wx.heap.size ≤ g) :
    Half w b jb mb most n q3 c3 l kl ((w3.setCell ⟨b, 0, none⟩ (.int .i64 most)).setCell ⟨b, 1, none⟩ (.slice q3 kl.length c3)) := by
  have h3 := h.next hb
  have hjl := h.j.jar.lt
  have hbl := h.box.lt
  have hml : mb < wx.heap.size := by obtain ⟨D, hh, _⟩ := h.j.map; exact hh.lt
  have hqj : ∀ g off, q3 = some ⟨g, off, none⟩ → g ≠ jb ∧ g ≠ mb ∧ g ≠ b := by
    intro g off e
    rcases hq with hq | hq
    · rw [hq] at e; exact h.qj g off e
    · have := hq g off e; exact ⟨by omega, by omega, by omega⟩
  have hp := h3.box.put [.int .i64 most, .slice q3 kl.length c3] rfl
  have hpk := (Keeps.put (S := fun i => i = b) (b := b) rfl [.int .i64 most, .slice q3 kl.length c3] 0 w3)
  exact {
    box := hp
    j := h3.j.keeps hpk (fun e => h.low.2.2.2.1 e.symm) (fun e => h.low.2.2.2.2 e.symm) (fun x hx e => box_ne h3.box h3.j x hx e)
    d := hl.keeps hpk (fun g off e hgb => (hqj g off e).2.2 hgb)
    cap := hc
    bl := putAll_below [.int .i64 most, .slice q3 kl.length c3] 0 _ _ h3.bl h.low.1
    low := h.low
    qj := hqj }
/-- and the program's -/
theorem Half.set {w : World} {b jb mb most n : Nat} {q : Option Addr} {cap : Nat} {l : List It} {kl : List Kp} {wx wy : World} {V : Int} {e : Ending} (h : Half w b jb mb most n q cap l kl wx) (hs : SetPost wx jb mb most n V kl e wy) (hlen : kl.length ≤ most) :
    ∃ l' n', n' ≤ n + 1 ∧ Mm w b jb mb most n' q cap l' wy ∧ l'.map It.k = kl := by
  obtain ⟨_, hk, l', n', hj, hl, _, hn⟩ := hs
  refine ⟨l', n', hn, ?_, hl⟩
  subst hl
  exact {
    box := h.box.keeps hk (fun e => by rcases e with e | e; exact h.low.2.2.2.1 e; exact h.low.2.2.2.2 e)
    j := hj
    d := h.d.keeps hk (fun g off e hg => by have := h.qj g off e; rcases hg with hg | hg; exact this.1 hg; exact this.2.1 hg)
    cap := h.cap
    len := by rw [List.length_map] at hlen; exact hlen
    bl := h.bl.trans (hk.below (fun i hi e => by have := h.low; omega) h.bl.size)
    low := h.low
    qj := h.qj }
noncomputable def memFrom9 : Code := ((Tryz.f7.body.bind (fromReg 9)).getD .skip)
set_option maxRecDepth 100000 in
theorem mem_t9 {Q : Exit → Act → World → Prop} {K : Act → World → Prop} (hK : ∀ a w, Code.wp Tryz.prog (seqTl memFrom9) Q a w → K a w) {w w1 : World} {b jb mb most n ob : Nat} {q : Option Addr} {cap : Nat} {l : List It} {nm v pp d : List UInt8} {ma : Int} {hm : Bool} {ex : Int} {he sc ht : Bool} {sm kd : Int} {host path : List UInt8} {sec : Bool} {now : Int}
    (M : Hid (Mm w b jb mb most n q cap l w1)) (KO : Hid (CellsAt w1 ob (cellsO (⟨kd, ⟨nm, v, pp, d, ma, hm, ex, he, sc, ht, sm⟩, host, path, sec, now⟩ : OpC)))) (hE : EnvK w) (hF : FitC (⟨nm, v, pp, d, ma, hm, ex, he, sc, ht, sm⟩ : SetC)) (hh : host.length ≤ 1073741824) (hp : path.length ≤ 1073741824) (hn : n < 549755813887) (hm1 : 1 ≤ most) (hne : b ≠ ob ∧ jb ≠ ob ∧ mb ≠ ob)
    {c0 c1 c2 c5 c6 c8 c9 c10 c11 c12 c13 c14 c15 c16 c17 c18 c19 c20 c21 c22 c23 c24 c25 c26 c27 c28 c29 c30 c31 c32 c33 c34 c35 c36 c37 c38 c39 c40 c41 c42 c43 c44 c45 c46 c47 c48 c49 c50 c51 c52 c53 c54 c55 c56 c57 c58 c59 c60 c61 c62 c63 c64 c65 c66 c67 c68 c69 c70 c71 c72 c73 c74 c75 c76 c77 c78 c79 c80 c81 c82 c83 c84 c85 c86 c87 c88 c89 c90 c91 c92 c93 c94 c95 c96 c97 c98 c99 c100 c101 c102 c103 c104 c105 c106 c107 c108 c109 c110 c111 c112 c113 c114 c115 c116 c117 c118 c119 c120 c121 c122 c123 c124 c125 c126 c127 c128 c129 c130 c131 c132 c133 c134 c135 c136 c137 c138 c139 c140 c141 c142 c143 c144 c145 c146 c147 c148 c149 c150 c151 c152 c153 c154 c155 c156 c157 : Value}
    (hnorm : ∀ (d2 d8 d9 d10 d11 d12 d13 d14 d34 d35 d36 d37 d38 d39 d40 d41 d42 d43 d44 d45 d46 d47 d48 d49 d50 d51 d52 d53 d54 d55 d56 d57 d58 d59 d60 d61 d62 d63 d64 d65 d66 d67 d68 d69 d70 d71 d72 d73 d74 d75 d76 d77 d78 d79 d80 d81 d82 d83 d84 d85 d86 d87 d88 d89 d90 d91 d92 d93 d94 d95 d96 d97 d98 d99 d100 d101 d102 d103 d104 d105 d106 d107 d108 d109 d110 d111 d112 d113 d114 d115 d116 d117 d118 d119 d120 d121 d122 d123 d124 d125 d126 d127 d128 d129 d130 d131 d132 d133 d134 d135 d136 d137 d138 d139 d140 d141 d142 d143 d144 d145 d146 d147 d148 d149 d150 d151 d152 d153 d154 d155 d156 : Value) (w0 : World) (n' : Nat) (q' : Option Addr) (cap' : Nat) (l' : List It), n' ≤ n + 1 → Mm w b jb mb most n' q' cap' l' w0 → Q .normal ⟨List.toArray (c0 :: c1 :: d2 :: .pointer (some ⟨jb, 0, none⟩) :: .pointer (some ⟨b, 0, none⟩) :: c5 :: c6 :: .pointer (some ⟨ob, 0, none⟩) :: d8 :: d9 :: d10 :: d11 :: d12 :: d13 :: d14 :: c15 :: c16 :: c17 :: c18 :: c19 :: c20 :: c21 :: c22 :: c23 :: c24 :: c25 :: c26 :: c27 :: c28 :: c29 :: c30 :: c31 :: c32 :: c33 :: d34 :: d35 :: d36 :: d37 :: d38 :: d39 :: d40 :: d41 :: d42 :: d43 :: d44 :: d45 :: d46 :: d47 :: d48 :: d49 :: d50 :: d51 :: d52 :: d53 :: d54 :: d55 :: d56 :: d57 :: d58 :: d59 :: d60 :: d61 :: d62 :: d63 :: d64 :: d65 :: d66 :: d67 :: d68 :: d69 :: d70 :: d71 :: d72 :: d73 :: d74 :: d75 :: d76 :: d77 :: d78 :: d79 :: d80 :: d81 :: d82 :: d83 :: d84 :: d85 :: d86 :: d87 :: d88 :: d89 :: d90 :: d91 :: d92 :: d93 :: d94 :: d95 :: d96 :: d97 :: d98 :: d99 :: d100 :: d101 :: d102 :: d103 :: d104 :: d105 :: d106 :: d107 :: d108 :: d109 :: d110 :: d111 :: d112 :: d113 :: d114 :: d115 :: d116 :: d117 :: d118 :: d119 :: d120 :: d121 :: d122 :: d123 :: d124 :: d125 :: d126 :: d127 :: d128 :: d129 :: d130 :: d131 :: d132 :: d133 :: d134 :: d135 :: d136 :: d137 :: d138 :: d139 :: d140 :: d141 :: d142 :: d143 :: d144 :: d145 :: d146 :: d147 :: d148 :: d149 :: d150 :: d151 :: d152 :: d153 :: d154 :: d155 :: d156 :: c157 :: []), []⟩ w0) :
    Code.wp Tryz.prog (seqHd memFrom9) (Exit.then K Q) ⟨List.toArray (c0 :: c1 :: c2 :: .pointer (some ⟨jb, 0, none⟩) :: .pointer (some ⟨b, 0, none⟩) :: c5 :: c6 :: .pointer (some ⟨ob, 0, none⟩) :: c8 :: c9 :: c10 :: c11 :: c12 :: c13 :: c14 :: c15 :: c16 :: c17 :: c18 :: c19 :: c20 :: c21 :: c22 :: c23 :: c24 :: c25 :: c26 :: c27 :: c28 :: c29 :: c30 :: c31 :: c32 :: c33 :: c34 :: c35 :: c36 :: c37 :: c38 :: c39 :: c40 :: c41 :: c42 :: c43 :: c44 :: c45 :: c46 :: c47 :: c48 :: c49 :: c50 :: c51 :: c52 :: c53 :: c54 :: c55 :: c56 :: c57 :: c58 :: c59 :: c60 :: c61 :: c62 :: c63 :: c64 :: c65 :: c66 :: c67 :: c68 :: c69 :: c70 :: c71 :: c72 :: c73 :: c74 :: c75 :: c76 :: c77 :: c78 :: c79 :: c80 :: c81 :: c82 :: c83 :: c84 :: c85 :: c86 :: c87 :: c88 :: c89 :: c90 :: c91 :: c92 :: c93 :: c94 :: c95 :: c96 :: c97 :: c98 :: c99 :: c100 :: c101 :: c102 :: c103 :: c104 :: c105 :: c106 :: c107 :: c108 :: c109 :: c110 :: c111 :: c112 :: c113 :: c114 :: c115 :: c116 :: c117 :: c118 :: c119 :: c120 :: c121 :: c122 :: c123 :: c124 :: c125 :: c126 :: c127 :: c128 :: c129 :: c130 :: c131 :: c132 :: c133 :: c134 :: c135 :: c136 :: c137 :: c138 :: c139 :: c140 :: c141 :: c142 :: c143 :: c144 :: c145 :: c146 :: c147 :: c148 :: c149 :: c150 :: c151 :: c152 :: c153 :: c154 :: c155 :: c156 :: c157 :: []), []⟩ w1 := by
  have HN := Lib.hid hnorm
  clear hnorm
  have hm2 := M.out.j.most
  have bd := (Below.refl w1.heap.size w1).drew
  have KD := Lib.hid (KO.out.next bd)
  have MD := Lib.hid (M.out.next bd)
  have RS := Lib.hid (fun W (hW : Below w1.drew.heap.size w1.drew W) => rset_any most q cap (l.map It.k) (⟨nm, v, pp, d, ma, hm, ex, he, sc, ht, sm⟩ : SetC) host path sec now W (MD.out.d.next hW) MD.out.cap hm1 hm2 (by rw [List.length_map]; exact MD.out.len) (by rw [List.map_map]; exact MD.out.j.keys) hF hh hp)
  have HS := Lib.hid (fun wx => set_law (⟨nm, v, pp, d, ma, hm, ex, he, sc, ht, sm⟩ : SetC) wx)
  have HLN : Hid ((setJ most (l.map It.k) (⟨nm, v, pp, d, ma, hm, ex, he, sc, ht, sm⟩ : SetC) host path sec now).length ≤ most) := setJ_len (by rw [List.length_map]; exact MD.out.len) _ _ _ _ _
  have PS := Lib.hid (fun W (hJ : JarAt W jb mb most n l) (hB : Below w.heap.size w W) => set_any W jb mb most n l (⟨nm, v, pp, d, ma, hm, ex, he, sc, ht, sm⟩ : SetC) (bs host) (bs path) sec now hJ (hE.next hB) hF (by rw [size_bs]; exact hh) (by rw [size_bs]; exact hp) (by omega) MD.out.len hm1)
  simp only [L_bs] at PS
  obtain ⟨lk, hlk⟩ := name_it (setJ most (l.map It.k) (⟨nm, v, pp, d, ma, hm, ex, he, sc, ht, sm⟩ : SetC) host path sec now)
  rw [hlk.out] at RS PS HLN
  obtain ⟨V, hV⟩ := name_it (failC (l.map It.k) (⟨nm, v, pp, d, ma, hm, ex, he, sc, ht, sm⟩ : SetC) host path sec now)
  rw [hV.out] at RS PS
  have BXD := Lib.hid MD.out.box
  obtain ⟨nl, hnl⟩ := name_it (l.map It.k).length
  rw [hnl.out] at RS BXD
  clear hlk hV M KO bd
  unfold ptrV at PS
  unfold cellsS at RS HS PS
  simp only at RS HS PS
  have j0 := BXD.out.at 0 _ rfl
  have j1 := BXD.out.at 1 _ rfl
  have HNE : Hid (b ≠ ob ∧ jb ≠ ob ∧ mb ≠ ob) := hne
  clear hne
  have SK : Hid (∀ W, CellsAt W ob (cellsO (⟨kd, ⟨nm, v, pp, d, ma, hm, ex, he, sc, ht, sm⟩, host, path, sec, now⟩ : OpC)) → W.cell? ⟨ob, 1, none⟩ = some (.string (bs nm)) ∧ W.cell? ⟨ob, 2, none⟩ = some (.string (bs v)) ∧ W.cell? ⟨ob, 3, none⟩ = some (.string (bs pp)) ∧ W.cell? ⟨ob, 4, none⟩ = some (.string (bs d)) ∧ W.cell? ⟨ob, 5, none⟩ = some (.int .i64 ma) ∧ W.cell? ⟨ob, 6, none⟩ = some (.bool hm) ∧ W.cell? ⟨ob, 7, none⟩ = some (.int .i64 ex) ∧ W.cell? ⟨ob, 8, none⟩ = some (.bool he) ∧ W.cell? ⟨ob, 9, none⟩ = some (.bool sc) ∧ W.cell? ⟨ob, 10, none⟩ = some (.bool ht) ∧ W.cell? ⟨ob, 11, none⟩ = some (.int .i64 sm) ∧ W.cell? ⟨ob, 12, none⟩ = some (.string (bs host)) ∧ W.cell? ⟨ob, 13, none⟩ = some (.string (bs path)) ∧ W.cell? ⟨ob, 14, none⟩ = some (.bool sec) ∧ W.cell? ⟨ob, 15, none⟩ = some (.int .i64 now)) := fun W h => ⟨h.at 1 _ rfl, h.at 2 _ rfl, h.at 3 _ rfl, h.at 4 _ rfl, h.at 5 _ rfl, h.at 6 _ rfl, h.at 7 _ rfl, h.at 8 _ rfl, h.at 9 _ rfl, h.at 10 _ rfl, h.at 11 _ rfl, h.at 12 _ rfl, h.at 13 _ rfl, h.at 14 _ rfl, h.at 15 _ rfl⟩
  conv => arg 2; whnf
  refine wp_region_noPanic ?_
  refine wp_region_held_drew (S := fun W => W.cell? ⟨ob, 1, none⟩ = some (.string (bs nm)) ∧ W.cell? ⟨ob, 2, none⟩ = some (.string (bs v)) ∧ W.cell? ⟨ob, 3, none⟩ = some (.string (bs pp)) ∧ W.cell? ⟨ob, 4, none⟩ = some (.string (bs d)) ∧ W.cell? ⟨ob, 5, none⟩ = some (.int .i64 ma) ∧ W.cell? ⟨ob, 6, none⟩ = some (.bool hm) ∧ W.cell? ⟨ob, 7, none⟩ = some (.int .i64 ex) ∧ W.cell? ⟨ob, 8, none⟩ = some (.bool he) ∧ W.cell? ⟨ob, 9, none⟩ = some (.bool sc) ∧ W.cell? ⟨ob, 10, none⟩ = some (.bool ht) ∧ W.cell? ⟨ob, 11, none⟩ = some (.int .i64 sm) ∧ W.cell? ⟨ob, 12, none⟩ = some (.string (bs host)) ∧ W.cell? ⟨ob, 13, none⟩ = some (.string (bs path)) ∧ W.cell? ⟨ob, 14, none⟩ = some (.bool sec) ∧ W.cell? ⟨ob, 15, none⟩ = some (.int .i64 now)) (by kernel_rfl) (SK.out _ KD.out) (fun hHeld => ?_)
  refine wpAnyH_take (i := 1) (v := ?_) rfl (by kernel_rfl) (by kernel_rfl) (by kernel_rfl) (fun _ _ _ h => h) (Or.inl ⟨by rfl, ?_⟩) (by assumption) ?_
  rotate_left
  · intro W hSw
    (try dsimp only at hSw)
    go_simp
    (try with_reducible rfl)
  simp only [Act.put, List.setIfInBounds_toArray]
  refine wpAnyH_take (i := 2) (v := ?_) rfl (by kernel_rfl) (by kernel_rfl) (by kernel_rfl) (fun _ _ _ h => h) (Or.inl ⟨by rfl, ?_⟩) (by assumption) ?_
  rotate_left
  · intro W hSw
    (try dsimp only at hSw)
    go_simp
    (try with_reducible rfl)
  simp only [Act.put]
  refine wpAnyH_take (i := 4) (v := ?_) rfl (by kernel_rfl) (by kernel_rfl) (by kernel_rfl) (fun _ _ _ h => h) (Or.inl ⟨by rfl, ?_⟩) (by assumption) ?_
  rotate_left
  · intro W hSw
    (try dsimp only at hSw)
    go_simp
    (try with_reducible rfl)
  simp only [Act.put]
  refine wpAnyH_take (i := 5) (v := ?_) rfl (by kernel_rfl) (by kernel_rfl) (by kernel_rfl) (fun _ _ _ h => h) (Or.inl ⟨by rfl, ?_⟩) (by assumption) ?_
  rotate_left
  · intro W hSw
    (try dsimp only at hSw)
    go_simp
    (try with_reducible rfl)
  simp only [Act.put]
  refine wpAnyH_take (i := 6) (v := ?_) rfl (by kernel_rfl) (by kernel_rfl) (by kernel_rfl) (fun _ _ _ h => h) (Or.inl ⟨by rfl, ?_⟩) (by assumption) ?_
  rotate_left
  · intro W hSw
    (try dsimp only at hSw)
    go_simp
    (try with_reducible rfl)
  simp only [Act.put]
  refine wpAnyH_take (i := 7) (v := ?_) rfl (by kernel_rfl) (by kernel_rfl) (by kernel_rfl) (fun _ _ _ h => h) (Or.inl ⟨by rfl, ?_⟩) (by assumption) ?_
  rotate_left
  · intro W hSw
    (try dsimp only at hSw)
    go_simp
    (try with_reducible rfl)
  simp only [Act.put]
  refine wpAnyH_take (i := 8) (v := ?_) rfl (by kernel_rfl) (by kernel_rfl) (by kernel_rfl) (fun _ _ _ h => h) (Or.inl ⟨by rfl, ?_⟩) (by assumption) ?_
  rotate_left
  · intro W hSw
    (try dsimp only at hSw)
    go_simp
    (try with_reducible rfl)
  simp only [Act.put]
  refine wpAnyH_take (i := 9) (v := ?_) rfl (by kernel_rfl) (by kernel_rfl) (by kernel_rfl) (fun _ _ _ h => h) (Or.inl ⟨by rfl, ?_⟩) (by assumption) ?_
  rotate_left
  · intro W hSw
    (try dsimp only at hSw)
    go_simp
    (try with_reducible rfl)
  simp only [Act.put]
  refine wpAnyH_take (i := 10) (v := ?_) rfl (by kernel_rfl) (by kernel_rfl) (by kernel_rfl) (fun _ _ _ h => h) (Or.inl ⟨by rfl, ?_⟩) (by assumption) ?_
  rotate_left
  · intro W hSw
    (try dsimp only at hSw)
    go_simp
    (try with_reducible rfl)
  simp only [Act.put]
  refine wpAnyH_take (i := 11) (v := ?_) rfl (by kernel_rfl) (by kernel_rfl) (by kernel_rfl) (fun _ _ _ h => h) (Or.inl ⟨by rfl, ?_⟩) (by assumption) ?_
  rotate_left
  · intro W hSw
    (try dsimp only at hSw)
    go_simp
    (try with_reducible rfl)
  simp only [Act.put]
  refine wpAnyH_take (i := 12) (v := ?_) rfl (by kernel_rfl) (by kernel_rfl) (by kernel_rfl) (fun _ _ _ h => h) (Or.inl ⟨by rfl, ?_⟩) (by assumption) ?_
  rotate_left
  · intro W hSw
    (try dsimp only at hSw)
    go_simp
    (try with_reducible rfl)
  simp only [Act.put]
  refine wpAnyH_ready (rs := [0, 3]) (by kernel_rfl) (by simp) ?_
  refine AllReadyH.cons rfl (fun K hK => ?_) (AllReadyH.cons rfl (fun K hK => ?_) AllReadyH.nil)
  · go_simp
    refine hK.out _ _ (SK.out _ KD.out) (fun hHeld => ?_)
    clear hK K
    try simp only [Act.put, List.setIfInBounds_toArray, List.set_cons_zero, List.set_cons_succ]
    refine wpAnyH_ready (rs := [3]) (by kernel_rfl) (by simp) ?_
    refine AllReadyH.cons rfl (fun K hK => ?_) AllReadyH.nil
    go_simp
    go_at_call 19
    refine (HS.out _).mono ?_
    rintro e w2 ⟨rfl, hb2⟩
    have BS := Lib.hid (BXD.out.next hb2)
    have KS := Lib.hid (KD.out.next hb2)
    have i0 := BS.out.at 0 _ rfl
    have i1 := BS.out.at 1 _ rfl
    go_wp2_with fail
    refine hK.out _ _ (SK.out _ KS.out) (fun hHeld => ?_)
    clear hK K
    try simp only [Act.put, List.setIfInBounds_toArray, List.set_cons_zero, List.set_cons_succ]
    refine wpAnyH_ready (rs := [13]) (by kernel_rfl) (by simp) ?_
    refine AllReadyH.cons rfl (fun K hK => ?_) AllReadyH.nil
    go_simp
    go_at_call 25
    refine (RS.out _ hb2).mono ?_
    rintro e w3 ⟨⟨q3, c3, rfl, hc3, hl3, hq3⟩, hb3⟩
    have BT := Lib.hid (BS.out.next hb3)
    have KT := Lib.hid (KS.out.next hb3)
    have i0 := BT.out.at 0 _ rfl
    have i1 := BT.out.at 1 _ rfl
    have f0 := BT.out.free 0
    have f1 := BT.out.free 1
    go_wp2_with fail
    refine hK.out _ _ (SK.out _ KT.out) (fun hHeld => ?_)
    clear hK K
    try simp only [Act.put, List.setIfInBounds_toArray, List.set_cons_zero, List.set_cons_succ]
    refine wpAnyH_take (i := 14) (v := ?_) rfl (by kernel_rfl) (by kernel_rfl) (by kernel_rfl) (fun _ _ _ h => h) (Or.inl ⟨by rfl, ?_⟩) (by assumption) ?_
    rotate_left
    · intro W hSw
      (try dsimp only at hSw)
      go_simp
      (try with_reducible rfl)
    simp only [Act.put, List.setIfInBounds_toArray]
    refine wpAnyH_take (i := 15) (v := ?_) rfl (by kernel_rfl) (by kernel_rfl) (by kernel_rfl) (fun _ _ _ h => h) (Or.inl ⟨by rfl, ?_⟩) (by assumption) ?_
    rotate_left
    · intro W hSw
      (try dsimp only at hSw)
      go_simp
      (try with_reducible rfl)
    simp only [Act.put]
    refine wpAnyH_take (i := 16) (v := ?_) rfl (by kernel_rfl) (by kernel_rfl) (by kernel_rfl) (fun _ _ _ h => h) (Or.inl ⟨by rfl, ?_⟩) (by assumption) ?_
    rotate_left
    · intro W hSw
      (try dsimp only at hSw)
      go_simp
      (try with_reducible rfl)
    simp only [Act.put]
    refine wpAnyH_ready (rs := [17]) (by kernel_rfl) (by simp) ?_
    refine AllReadyH.cons rfl (fun K hK => ?_) AllReadyH.nil
    go_simp
    refine hK.out _ _ (SK.out _ ((KT.out.other HNE.out.1 _ _).other HNE.out.1 _ _)) (fun hHeld => ?_)
    clear hK K
    try simp only [Act.put, List.setIfInBounds_toArray, List.set_cons_zero, List.set_cons_succ]
    refine wpAnyH_done (by kernel_rfl) (NoPanic.normal ?_) _
    have H3 := Lib.hid (MD.out.half (hb2.trans (hb3.mono hb2.size)) hl3 hc3 (by
      rcases hq3 with h | h
      · exact Or.inl h.1
      · exact Or.inr (fun g off e => Nat.le_trans hb2.size (h g off e))))
    have KO4 := Lib.hid ((KT.out.other HNE.out.1 0 (.int .i64 most)).other HNE.out.1 1 (.slice q3 lk.length c3))
    clear j0 j1 i0 i1 f0 f1 BS KS BT KT hb2 hb3 hl3 hq3 RS HS SK MD KD BXD
    generalize World.setCell _ ⟨b, 1, none⟩ _ = w4 at H3 KO4 ⊢
    have o1 : w4.cell? ⟨ob, 1, none⟩ = some (.string (bs nm)) := KO4.out.at 1 _ rfl
    have o2 : w4.cell? ⟨ob, 2, none⟩ = some (.string (bs v)) := KO4.out.at 2 _ rfl
    have o3 : w4.cell? ⟨ob, 3, none⟩ = some (.string (bs pp)) := KO4.out.at 3 _ rfl
    have o4 : w4.cell? ⟨ob, 4, none⟩ = some (.string (bs d)) := KO4.out.at 4 _ rfl
    have o5 : w4.cell? ⟨ob, 5, none⟩ = some (.int .i64 ma) := KO4.out.at 5 _ rfl
    have o6 : w4.cell? ⟨ob, 6, none⟩ = some (.bool hm) := KO4.out.at 6 _ rfl
    have o7 : w4.cell? ⟨ob, 7, none⟩ = some (.int .i64 ex) := KO4.out.at 7 _ rfl
    have o8 : w4.cell? ⟨ob, 8, none⟩ = some (.bool he) := KO4.out.at 8 _ rfl
    have o9 : w4.cell? ⟨ob, 9, none⟩ = some (.bool sc) := KO4.out.at 9 _ rfl
    have o10 : w4.cell? ⟨ob, 10, none⟩ = some (.bool ht) := KO4.out.at 10 _ rfl
    have o11 : w4.cell? ⟨ob, 11, none⟩ = some (.int .i64 sm) := KO4.out.at 11 _ rfl
    have o12 : w4.cell? ⟨ob, 12, none⟩ = some (.string (bs host)) := KO4.out.at 12 _ rfl
    have o13 : w4.cell? ⟨ob, 13, none⟩ = some (.string (bs path)) := KO4.out.at 13 _ rfl
    have o14 : w4.cell? ⟨ob, 14, none⟩ = some (.bool sec) := KO4.out.at 14 _ rfl
    have o15 : w4.cell? ⟨ob, 15, none⟩ = some (.int .i64 now) := KO4.out.at 15 _ rfl
    go_wp2_with fail
    conv => arg 2; whnf
    go_wp2_with fail
    refine (PS.out w4 H3.out.j H3.out.bl).mono ?_
    intro e w5 hset
    obtain ⟨l', n', hn', hM5, _⟩ := H3.out.set hset HLN.out
    have M5 := Lib.hid hM5
    have KO5 := Lib.hid (KO4.out.keeps hset.2.1 (fun e => by rcases e with e | e; exact HNE.out.2.1 e.symm; exact HNE.out.2.2 e.symm))
    obtain rfl := hset.1
    clear H3 KO4 hset PS hM5 o1 o2 o3 o4 o5 o6 o7 o8 o9 o10 o11 o12 o13 o14 o15
    go_upto_region 11 with fail
    refine mem_t11 ?hK M5 KO5 hh hp (by omega) ?_
    case hK => assumption
    intro e2 e8 e9 e10 e11 e12 e13 e14 e63 e64 e65 e66 e67 e68 e69 e70 e71 e72 e73 e74 e75 e76 e77 e78 e79 e80 e81 e82 e83 e84 e85 e86 e87 e88 e89 e90 e91 e92 e93 e94 e95 e96 e97 e98 e99 e100 e101 e102 e103 e104 e105 e106 e107 e108 e109 e110 e111 e112 e113 e114 e115 e116 e117 e118 e119 e120 e121 e122 e123 e124 e125 e126 e127 e128 e129 e130 e131 e132 e133 e134 e135 e136 e137 e138 e139 e140 e141 e142 e143 e144 e145 e146 e147 e148 e149 e150 e151 e152 e153 e154 e155 e156 w0 hb0
    exact HN.out _ _ _ _ _ _ _ _ _ _ _ _ _ _ _ _ _ _ _ _ _ _ _ _ _ _ _ _ _ _ _ _ _ _ _ _ _ _ _ _ _ _ _ _ _ _ _ _ _ _ _ _ _ _ _ _ _ _ _ _ _ _ _ _ _ _ _ _ _ _ _ _ _ _ _ _ _ _ _ _ _ _ _ _ _ _ _ _ _ _ _ _ _ _ _ _ _ _ _ _ _ _ _ _ _ _ _ _ _ _ _ _ _ _ _ _ _ _ _ _ _ _ _ _ _ _ _ _ _ _ _ _ n' q3 c3 l' hn' (M5.out.next hb0)
  · go_simp
    go_at_call 19
    refine (HS.out _).mono ?_
    rintro e w2 ⟨rfl, hb2⟩
    have BS := Lib.hid (BXD.out.next hb2)
    have KS := Lib.hid (KD.out.next hb2)
    have i0 := BS.out.at 0 _ rfl
    have i1 := BS.out.at 1 _ rfl
    go_wp2_with fail
    refine hK.out _ _ (SK.out _ KS.out) (fun hHeld => ?_)
    clear hK K
    try simp only [Act.put, List.setIfInBounds_toArray, List.set_cons_zero, List.set_cons_succ]
    refine wpAnyH_ready (rs := [0]) (by kernel_rfl) (by simp) ?_
    refine AllReadyH.cons rfl (fun K hK => ?_) AllReadyH.nil
    go_simp
    refine hK.out _ _ (SK.out _ KS.out) (fun hHeld => ?_)
    clear hK K
    try simp only [Act.put, List.setIfInBounds_toArray, List.set_cons_zero, List.set_cons_succ]
    refine wpAnyH_ready (rs := [13]) (by kernel_rfl) (by simp) ?_
    refine AllReadyH.cons rfl (fun K hK => ?_) AllReadyH.nil
    go_simp
    go_at_call 25
    refine (RS.out _ hb2).mono ?_
    rintro e w3 ⟨⟨q3, c3, rfl, hc3, hl3, hq3⟩, hb3⟩
    have BT := Lib.hid (BS.out.next hb3)
    have KT := Lib.hid (KS.out.next hb3)
    have i0 := BT.out.at 0 _ rfl
    have i1 := BT.out.at 1 _ rfl
    have f0 := BT.out.free 0
    have f1 := BT.out.free 1
    go_wp2_with fail
    refine hK.out _ _ (SK.out _ KT.out) (fun hHeld => ?_)
    clear hK K
    try simp only [Act.put, List.setIfInBounds_toArray, List.set_cons_zero, List.set_cons_succ]
    refine wpAnyH_take (i := 14) (v := ?_) rfl (by kernel_rfl) (by kernel_rfl) (by kernel_rfl) (fun _ _ _ h => h) (Or.inl ⟨by rfl, ?_⟩) (by assumption) ?_
    rotate_left
    · intro W hSw
      (try dsimp only at hSw)
      go_simp
      (try with_reducible rfl)
    simp only [Act.put, List.setIfInBounds_toArray]
    refine wpAnyH_take (i := 15) (v := ?_) rfl (by kernel_rfl) (by kernel_rfl) (by kernel_rfl) (fun _ _ _ h => h) (Or.inl ⟨by rfl, ?_⟩) (by assumption) ?_
    rotate_left
    · intro W hSw
      (try dsimp only at hSw)
      go_simp
      (try with_reducible rfl)
    simp only [Act.put]
    refine wpAnyH_take (i := 16) (v := ?_) rfl (by kernel_rfl) (by kernel_rfl) (by kernel_rfl) (fun _ _ _ h => h) (Or.inl ⟨by rfl, ?_⟩) (by assumption) ?_
    rotate_left
    · intro W hSw
      (try dsimp only at hSw)
      go_simp
      (try with_reducible rfl)
    simp only [Act.put]
    refine wpAnyH_ready (rs := [17]) (by kernel_rfl) (by simp) ?_
    refine AllReadyH.cons rfl (fun K hK => ?_) AllReadyH.nil
    go_simp
    refine hK.out _ _ (SK.out _ ((KT.out.other HNE.out.1 _ _).other HNE.out.1 _ _)) (fun hHeld => ?_)
    clear hK K
    try simp only [Act.put, List.setIfInBounds_toArray, List.set_cons_zero, List.set_cons_succ]
    refine wpAnyH_done (by kernel_rfl) (NoPanic.normal ?_) _
    have H3 := Lib.hid (MD.out.half (hb2.trans (hb3.mono hb2.size)) hl3 hc3 (by
      rcases hq3 with h | h
      · exact Or.inl h.1
      · exact Or.inr (fun g off e => Nat.le_trans hb2.size (h g off e))))
    have KO4 := Lib.hid ((KT.out.other HNE.out.1 0 (.int .i64 most)).other HNE.out.1 1 (.slice q3 lk.length c3))
    clear j0 j1 i0 i1 f0 f1 BS KS BT KT hb2 hb3 hl3 hq3 RS HS SK MD KD BXD
    generalize World.setCell _ ⟨b, 1, none⟩ _ = w4 at H3 KO4 ⊢
    have o1 : w4.cell? ⟨ob, 1, none⟩ = some (.string (bs nm)) := KO4.out.at 1 _ rfl
    have o2 : w4.cell? ⟨ob, 2, none⟩ = some (.string (bs v)) := KO4.out.at 2 _ rfl
    have o3 : w4.cell? ⟨ob, 3, none⟩ = some (.string (bs pp)) := KO4.out.at 3 _ rfl
    have o4 : w4.cell? ⟨ob, 4, none⟩ = some (.string (bs d)) := KO4.out.at 4 _ rfl
    have o5 : w4.cell? ⟨ob, 5, none⟩ = some (.int .i64 ma) := KO4.out.at 5 _ rfl
    have o6 : w4.cell? ⟨ob, 6, none⟩ = some (.bool hm) := KO4.out.at 6 _ rfl
    have o7 : w4.cell? ⟨ob, 7, none⟩ = some (.int .i64 ex) := KO4.out.at 7 _ rfl
    have o8 : w4.cell? ⟨ob, 8, none⟩ = some (.bool he) := KO4.out.at 8 _ rfl
    have o9 : w4.cell? ⟨ob, 9, none⟩ = some (.bool sc) := KO4.out.at 9 _ rfl
    have o10 : w4.cell? ⟨ob, 10, none⟩ = some (.bool ht) := KO4.out.at 10 _ rfl
    have o11 : w4.cell? ⟨ob, 11, none⟩ = some (.int .i64 sm) := KO4.out.at 11 _ rfl
    have o12 : w4.cell? ⟨ob, 12, none⟩ = some (.string (bs host)) := KO4.out.at 12 _ rfl
    have o13 : w4.cell? ⟨ob, 13, none⟩ = some (.string (bs path)) := KO4.out.at 13 _ rfl
    have o14 : w4.cell? ⟨ob, 14, none⟩ = some (.bool sec) := KO4.out.at 14 _ rfl
    have o15 : w4.cell? ⟨ob, 15, none⟩ = some (.int .i64 now) := KO4.out.at 15 _ rfl
    go_wp2_with fail
    conv => arg 2; whnf
    go_wp2_with fail
    refine (PS.out w4 H3.out.j H3.out.bl).mono ?_
    intro e w5 hset
    obtain ⟨l', n', hn', hM5, _⟩ := H3.out.set hset HLN.out
    have M5 := Lib.hid hM5
    have KO5 := Lib.hid (KO4.out.keeps hset.2.1 (fun e => by rcases e with e | e; exact HNE.out.2.1 e.symm; exact HNE.out.2.2 e.symm))
    obtain rfl := hset.1
    clear H3 KO4 hset PS hM5 o1 o2 o3 o4 o5 o6 o7 o8 o9 o10 o11 o12 o13 o14 o15
    go_upto_region 11 with fail
    refine mem_t11 ?hK M5 KO5 hh hp (by omega) ?_
    case hK => assumption
    intro e2 e8 e9 e10 e11 e12 e13 e14 e63 e64 e65 e66 e67 e68 e69 e70 e71 e72 e73 e74 e75 e76 e77 e78 e79 e80 e81 e82 e83 e84 e85 e86 e87 e88 e89 e90 e91 e92 e93 e94 e95 e96 e97 e98 e99 e100 e101 e102 e103 e104 e105 e106 e107 e108 e109 e110 e111 e112 e113 e114 e115 e116 e117 e118 e119 e120 e121 e122 e123 e124 e125 e126 e127 e128 e129 e130 e131 e132 e133 e134 e135 e136 e137 e138 e139 e140 e141 e142 e143 e144 e145 e146 e147 e148 e149 e150 e151 e152 e153 e154 e155 e156 w0 hb0
    exact HN.out _ _ _ _ _ _ _ _ _ _ _ _ _ _ _ _ _ _ _ _ _ _ _ _ _ _ _ _ _ _ _ _ _ _ _ _ _ _ _ _ _ _ _ _ _ _ _ _ _ _ _ _ _ _ _ _ _ _ _ _ _ _ _ _ _ _ _ _ _ _ _ _ _ _ _ _ _ _ _ _ _ _ _ _ _ _ _ _ _ _ _ _ _ _ _ _ _ _ _ _ _ _ _ _ _ _ _ _ _ _ _ _ _ _ _ _ _ _ _ _ _ _ _ _ _ _ _ _ _ _ _ _ n' q3 c3 l' hn' (M5.out.next hb0)
end Go.Proofs.YtkenianfpfamcaaGreatDoor
