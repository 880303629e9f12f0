/- The law's step: the arm of Set. -/
import Derived.Test.YtkenianfpfamcaaGreatDoorTc
namespace Go.Proofs.YtkenianfpfamcaaGreatDoor
open Go Go.RowKit
set_option maxHeartbeats 16000000

noncomputable def stepFrom5 : Code := ((Tryz.f32.body.bind (fromReg 5)).getD .skip)
set_option maxRecDepth 100000 in
theorem step_t5 {Q : Exit → Act → World → Prop} {K : Act → World → Prop} (hK : ∀ a w, Code.wp Tryz.prog (seqTl stepFrom5) Q a w → K a w) {w w1 : World} {jv : Value} {jb mb most n b4 b5 b6 b8 : Nat} {q : Option Addr} {cap : Nat} {l : List It} {nm v pp d : List UInt8} {ma : Int} {hm : Bool} {ex : Int} {he sc ht : Bool} {sm kd : Int} {host path : List UInt8} {sec : Bool} {now : Int}
    (X : Hid (Sx w b4 b5 b6 b8 jv jb mb most n q cap l (⟨kd, ⟨nm, v, pp, d, ma, hm, ex, he, sc, ht, sm⟩, host, path, sec, now⟩ : OpC) w1)) (hh : host.length ≤ 1073741824) (hp : path.length ≤ 1073741824) (hn : n ≤ 549755813888) (hE : EnvK w) (hF : FitC (⟨nm, v, pp, d, ma, hm, ex, he, sc, ht, sm⟩ : SetC)) (hV : most ≠ 0 → 9 ≤ jb ∧ 9 ≤ mb)
    {c1 c2 c3 c7 c9 c10 c11 c12 c13 c14 c15 c16 c17 c18 c19 c20 c21 c22 c23 c24 c25 c26 c27 c28 c29 c30 c31 c32 c33 c34 c35 c36 c37 c38 c39 c40 c41 c42 c43 c44 c45 c46 c47 c48 c49 c50 c51 c52 c53 c54 c55 c56 c57 c58 c59 c60 c61 c62 c63 c64 c65 c66 c67 c68 c69 c70 c71 c72 c73 c74 c75 c76 c77 c78 c79 c80 c81 c82 c83 c84 c85 c86 c87 c88 c89 c90 c91 c92 c93 c94 c95 : Value}
    (hret : ∀ (d0 d1 d2 d3 d4 d5 d8 d9 d10 d11 d12 d13 d14 d15 d16 d17 d18 d19 d20 d21 d22 d23 d24 d25 d26 d27 d28 d29 d30 d31 d32 d33 d34 d35 d36 d37 d38 d39 d40 d41 d42 d43 d44 d45 d46 d47 d48 d49 d50 d51 d52 d53 d54 d55 d56 d57 d58 d59 d60 d61 d62 d63 d64 d65 d66 d67 d68 d69 d70 d71 d72 d73 d74 d75 d76 d77 d78 d79 d80 d81 d82 d83 d84 d85 d86 d87 d88 d89 d90 d91 d92 d93 d94 d95 : Value) (q9 : Option Addr) (cap9 : Nat) (l9 : List It) (n9 : Nat) (w0 : World), StepOut w jv jb mb most n (l.map It.k) q q9 cap9 l9 n9 w0 → w0.cell? ⟨b6, 0, none⟩ = some (.int .i64 most) → w0.cell? ⟨b6, 1, none⟩ = some (.slice q9 (l9.map It.k).length cap9) → Q .ret ⟨List.toArray (d0 :: d1 :: d2 :: d3 :: d4 :: d5 :: .pointer (some ⟨b6, 0, none⟩) :: .bool true :: d8 :: d9 :: d10 :: d11 :: d12 :: d13 :: d14 :: d15 :: d16 :: d17 :: d18 :: d19 :: d20 :: d21 :: d22 :: d23 :: d24 :: d25 :: d26 :: d27 :: d28 :: d29 :: d30 :: d31 :: d32 :: d33 :: d34 :: d35 :: d36 :: d37 :: d38 :: d39 :: d40 :: d41 :: d42 :: d43 :: d44 :: d45 :: d46 :: d47 :: d48 :: d49 :: d50 :: d51 :: d52 :: d53 :: d54 :: d55 :: d56 :: d57 :: d58 :: d59 :: d60 :: d61 :: d62 :: d63 :: d64 :: d65 :: d66 :: d67 :: d68 :: d69 :: d70 :: d71 :: d72 :: d73 :: d74 :: d75 :: d76 :: d77 :: d78 :: d79 :: d80 :: d81 :: d82 :: d83 :: d84 :: d85 :: d86 :: d87 :: d88 :: d89 :: d90 :: d91 :: d92 :: d93 :: d94 :: d95 :: []), []⟩ w0) :
    Code.wp Tryz.prog (seqHd stepFrom5) (Exit.then K Q) ⟨List.toArray (jv :: c1 :: c2 :: c3 :: .pointer (some ⟨b4, 0, none⟩) :: .pointer (some ⟨b5, 0, none⟩) :: .pointer (some ⟨b6, 0, none⟩) :: c7 :: .pointer (some ⟨b8, 0, none⟩) :: c9 :: c10 :: c11 :: c12 :: c13 :: c14 :: c15 :: c16 :: c17 :: c18 :: c19 :: c20 :: c21 :: c22 :: c23 :: c24 :: c25 :: c26 :: c27 :: c28 :: c29 :: c30 :: c31 :: c32 :: c33 :: c34 :: c35 :: c36 :: c37 :: c38 :: c39 :: c40 :: c41 :: c42 :: c43 :: c44 :: c45 :: c46 :: c47 :: c48 :: c49 :: c50 :: c51 :: c52 :: c53 :: c54 :: c55 :: c56 :: c57 :: c58 :: c59 :: c60 :: c61 :: c62 :: c63 :: c64 :: c65 :: c66 :: c67 :: c68 :: c69 :: c70 :: c71 :: c72 :: c73 :: c74 :: c75 :: c76 :: c77 :: c78 :: c79 :: c80 :: c81 :: c82 :: c83 :: c84 :: c85 :: c86 :: c87 :: c88 :: c89 :: c90 :: c91 :: c92 :: c93 :: c94 :: c95 :: []), []⟩ w1 := by
  have HRT := Lib.hid hret
  clear hret
  have hmost := X.out.j.most
  have hlen := X.out.j.len
  have HMK : Hid ((l.map It.k).length = l.length) := List.length_map ..
  have NE := Lib.hid X.out.ne
  have bd := (Below.refl w1.heap.size w1).drew
  have XD := Lib.hid (X.out.next bd)
  have KD : Hid (CellsAt w1.drew b5 (cellsO (⟨kd, ⟨nm, v, pp, d, ma, hm, ex, he, sc, ht, sm⟩, host, path, sec, now⟩ : OpC)) ∧ CellsAt w1.drew b8 [.string (bs host), .string (bs path), .bool sec, .int .i64 now]) := ⟨XD.out.k5, XD.out.k8⟩
  have RS := Lib.hid (fun W (hW : Below w1.drew.heap.size w1.drew W) => rset_v w1 jv jb mb most n l q cap (⟨nm, v, pp, d, ma, hm, ex, he, sc, ht, sm⟩ : SetC) host path sec now X.out.j W (XD.out.d.next hW) X.out.cp hF hh hp)
  have HS := Lib.hid (fun wx => set_law (⟨nm, v, pp, d, ma, hm, ex, he, sc, ht, sm⟩ : SetC) wx)
  have HENV : Hid (∀ W, Keeps (fun i => most ≠ 0 ∧ (i = jb ∨ i = mb)) w W → EnvK W) := fun W hK => hE.below (hK.below (B := 9) (fun i hi e => by have := hV e.1; omega) hE.t.n) (Nat.le_refl _)
  have PS := Lib.hid (fun W (hJ : Jv W jv jb mb most n l) (_hs : w.heap.size ≤ W.heap.size) (hE : EnvK W) => jv_set W jv jb mb most n l (⟨nm, v, pp, d, ma, hm, ex, he, sc, ht, sm⟩ : SetC) host path sec now hJ hE hF hh hp (by omega))
  have X4D := Lib.hid XD.out.k4
  obtain ⟨lk, hlk⟩ := name_it (setV2 most (l.map It.k) (⟨nm, v, pp, d, ma, hm, ex, he, sc, ht, sm⟩ : SetC) host path sec now)
  rw [hlk.out] at RS PS
  obtain ⟨V, hVV⟩ := name_it (failV most (l.map It.k) (⟨nm, v, pp, d, ma, hm, ex, he, sc, ht, sm⟩ : SetC) host path sec now)
  rw [hVV.out] at RS PS
  obtain ⟨nl, hnl⟩ := name_it (l.map It.k).length
  rw [hnl.out] at RS X4D
  clear hlk hVV hnl bd X HMK hmost hlen
  unfold cellsS at RS HS PS
  simp only at RS HS PS
  have j0 := X4D.out.at 0 _ rfl
  have j1 := X4D.out.at 1 _ rfl
  have SR : Hid (∀ W, CellsAt W b5 (cellsO (⟨kd, ⟨nm, v, pp, d, ma, hm, ex, he, sc, ht, sm⟩, host, path, sec, now⟩ : OpC)) → CellsAt W b8 [.string (bs host), .string (bs path), .bool sec, .int .i64 now] → W.cell? ⟨b5, 1, none⟩ = some (.string (bs nm)) ∧ W.cell? ⟨b5, 2, none⟩ = some (.string (bs v)) ∧ W.cell? ⟨b5, 3, none⟩ = some (.string (bs pp)) ∧ W.cell? ⟨b5, 4, none⟩ = some (.string (bs d)) ∧ W.cell? ⟨b5, 5, none⟩ = some (.int .i64 ma) ∧ W.cell? ⟨b5, 6, none⟩ = some (.bool hm) ∧ W.cell? ⟨b5, 7, none⟩ = some (.int .i64 ex) ∧ W.cell? ⟨b5, 8, none⟩ = some (.bool he) ∧ W.cell? ⟨b5, 9, none⟩ = some (.bool sc) ∧ W.cell? ⟨b5, 10, none⟩ = some (.bool ht) ∧ W.cell? ⟨b5, 11, none⟩ = some (.int .i64 sm) ∧ W.cell? ⟨b5, 12, none⟩ = some (.string (bs host)) ∧ W.cell? ⟨b5, 13, none⟩ = some (.string (bs path)) ∧ W.cell? ⟨b5, 14, none⟩ = some (.bool sec) ∧ W.cell? ⟨b5, 15, none⟩ = some (.int .i64 now) ∧ W.cell? ⟨b8, 0, none⟩ = some (.string (bs host)) ∧ W.cell? ⟨b8, 1, none⟩ = some (.string (bs path)) ∧ W.cell? ⟨b8, 2, none⟩ = some (.bool sec) ∧ W.cell? ⟨b8, 3, none⟩ = some (.int .i64 now)) := fun W h5 h8 => ⟨h5.at 1 _ rfl, h5.at 2 _ rfl, h5.at 3 _ rfl, h5.at 4 _ rfl, h5.at 5 _ rfl, h5.at 6 _ rfl, h5.at 7 _ rfl, h5.at 8 _ rfl, h5.at 9 _ rfl, h5.at 10 _ rfl, h5.at 11 _ rfl, h5.at 12 _ rfl, h5.at 13 _ rfl, h5.at 14 _ rfl, h5.at 15 _ rfl, h8.at 0 _ rfl, h8.at 1 _ rfl, h8.at 2 _ rfl, h8.at 3 _ rfl⟩
  conv => arg 2; whnf
  refine wp_region_noPanic ?_
  refine wp_region_held_drew (S := fun W => W.cell? ⟨b5, 1, none⟩ = some (.string (bs nm)) ∧ W.cell? ⟨b5, 2, none⟩ = some (.string (bs v)) ∧ W.cell? ⟨b5, 3, none⟩ = some (.string (bs pp)) ∧ W.cell? ⟨b5, 4, none⟩ = some (.string (bs d)) ∧ W.cell? ⟨b5, 5, none⟩ = some (.int .i64 ma) ∧ W.cell? ⟨b5, 6, none⟩ = some (.bool hm) ∧ W.cell? ⟨b5, 7, none⟩ = some (.int .i64 ex) ∧ W.cell? ⟨b5, 8, none⟩ = some (.bool he) ∧ W.cell? ⟨b5, 9, none⟩ = some (.bool sc) ∧ W.cell? ⟨b5, 10, none⟩ = some (.bool ht) ∧ W.cell? ⟨b5, 11, none⟩ = some (.int .i64 sm) ∧ W.cell? ⟨b5, 12, none⟩ = some (.string (bs host)) ∧ W.cell? ⟨b5, 13, none⟩ = some (.string (bs path)) ∧ W.cell? ⟨b5, 14, none⟩ = some (.bool sec) ∧ W.cell? ⟨b5, 15, none⟩ = some (.int .i64 now) ∧ W.cell? ⟨b8, 0, none⟩ = some (.string (bs host)) ∧ W.cell? ⟨b8, 1, none⟩ = some (.string (bs path)) ∧ W.cell? ⟨b8, 2, none⟩ = some (.bool sec) ∧ W.cell? ⟨b8, 3, none⟩ = some (.int .i64 now)) (by kernel_rfl) (SR.out _ KD.out.1 KD.out.2) (fun hHeld => ?_)
  refine wpAnyH_take (i := 1) (v := ?_) rfl (by kernel_rfl) (by kernel_rfl) (by kernel_rfl) (fun _ _ _ h => h) (Or.inl ⟨by rfl, ?_⟩) (by assumption) ?_
  rotate_left
  · intro W hSw
    (try dsimp only at hSw)
    go_simp
    (try with_reducible rfl)
  simp only [Act.put, List.setIfInBounds_toArray]
  refine wpAnyH_take (i := 2) (v := ?_) rfl (by kernel_rfl) (by kernel_rfl) (by kernel_rfl) (fun _ _ _ h => h) (Or.inl ⟨by rfl, ?_⟩) (by assumption) ?_
  rotate_left
  · intro W hSw
    (try dsimp only at hSw)
    go_simp
    (try with_reducible rfl)
  simp only [Act.put]
  refine wpAnyH_take (i := 4) (v := ?_) rfl (by kernel_rfl) (by kernel_rfl) (by kernel_rfl) (fun _ _ _ h => h) (Or.inl ⟨by rfl, ?_⟩) (by assumption) ?_
  rotate_left
  · intro W hSw
    (try dsimp only at hSw)
    go_simp
    (try with_reducible rfl)
  simp only [Act.put]
  refine wpAnyH_ready (rs := [0, 3]) (by kernel_rfl) (by simp) ?_
  refine AllReadyH.cons rfl (fun K hK => ?_) (AllReadyH.cons rfl (fun K hK => ?_) AllReadyH.nil)
  · go_simp
    refine hK.out _ _ (SR.out _ KD.out.1 KD.out.2) (fun hHeld => ?_)
    clear hK K
    try simp only [Act.put, List.setIfInBounds_toArray, List.set_cons_zero, List.set_cons_succ]
    refine wpAnyH_ready (rs := [3]) (by kernel_rfl) (by simp) ?_
    refine AllReadyH.cons rfl (fun K hK => ?_) AllReadyH.nil
    go_simp
    go_at_call 19
    refine (HS.out _).mono ?_
    rintro e w2 ⟨rfl, hb2⟩
    have BS := Lib.hid (X4D.out.next hb2)
    have KS : Hid (_ ∧ _) := ⟨KD.out.1.next hb2, KD.out.2.next hb2⟩
    have i0 := BS.out.at 0 _ rfl
    have i1 := BS.out.at 1 _ rfl
    go_wp2_with fail
    refine hK.out _ _ (SR.out _ KS.out.1 KS.out.2) (fun hHeld => ?_)
    clear hK K
    try simp only [Act.put, List.setIfInBounds_toArray, List.set_cons_zero, List.set_cons_succ]
    refine wpAnyH_ready (rs := [5]) (by kernel_rfl) (by simp) ?_
    refine AllReadyH.cons rfl (fun K hK => ?_) AllReadyH.nil
    go_simp
    go_at_call 25
    refine (RS.out _ hb2).mono ?_
    rintro e w4 ⟨⟨q2, c2, rfl, hc2, hl2, hq2⟩, hb4⟩
    have BT := Lib.hid (BS.out.next hb4)
    have KT : Hid (_ ∧ _) := ⟨KS.out.1.next hb4, KS.out.2.next hb4⟩
    have i0 := BT.out.at 0 _ rfl
    have i1 := BT.out.at 1 _ rfl
    have f0 := BT.out.free 0
    have f1 := BT.out.free 1
    go_wp2_with fail
    refine hK.out _ _ (SR.out _ KT.out.1 KT.out.2) (fun hHeld => ?_)
    clear hK K
    try simp only [Act.put, List.setIfInBounds_toArray, List.set_cons_zero, List.set_cons_succ]
    refine wpAnyH_take (i := 6) (v := ?_) rfl (by kernel_rfl) (by kernel_rfl) (by kernel_rfl) (fun _ _ _ h => h) (Or.inl ⟨by rfl, ?_⟩) (by assumption) ?_
    rotate_left
    · intro W hSw
      (try dsimp only at hSw)
      go_simp
      (try with_reducible rfl)
    simp only [Act.put, List.setIfInBounds_toArray]
    refine wpAnyH_take (i := 7) (v := ?_) rfl (by kernel_rfl) (by kernel_rfl) (by kernel_rfl) (fun _ _ _ h => h) (Or.inl ⟨by rfl, ?_⟩) (by assumption) ?_
    rotate_left
    · intro W hSw
      (try dsimp only at hSw)
      go_simp
      (try with_reducible rfl)
    simp only [Act.put]
    refine wpAnyH_take (i := 8) (v := ?_) rfl (by kernel_rfl) (by kernel_rfl) (by kernel_rfl) (fun _ _ _ h => h) (Or.inl ⟨by rfl, ?_⟩) (by assumption) ?_
    rotate_left
    · intro W hSw
      (try dsimp only at hSw)
      go_simp
      (try with_reducible rfl)
    simp only [Act.put]
    refine wpAnyH_ready (rs := [9]) (by kernel_rfl) (by simp) ?_
    refine AllReadyH.cons rfl (fun K hK => ?_) AllReadyH.nil
    go_simp
    refine hK.out _ _ (SR.out _ ((KT.out.1.other NE.out.1 _ _).other NE.out.1 _ _) ((KT.out.2.other NE.out.2.2.1 _ _).other NE.out.2.2.1 _ _)) (fun hHeld => ?_)
    clear hK K
    try simp only [Act.put, List.setIfInBounds_toArray, List.set_cons_zero, List.set_cons_succ]
    refine wpAnyH_take (i := 10) (v := ?_) rfl (by kernel_rfl) (by kernel_rfl) (by kernel_rfl) (fun _ _ _ h => h) (Or.inl ⟨by rfl, ?_⟩) (by assumption) ?_
    rotate_left
    · intro W hSw
      (try dsimp only at hSw)
      go_simp
      (try with_reducible rfl)
    simp only [Act.put, List.setIfInBounds_toArray]
    simp only [List.getElem_toArray, List.getElem_cons_succ, List.getElem_cons_zero, List.set_cons_zero, List.set_cons_succ]
    refine wpAnyH_done (by kernel_rfl) (NoPanic.normal ?_) _
    have ZJ := XD.out.put (hb2.trans (hb4.mono hb2.size)) hl2 hc2 (by
      rcases hq2 with h | h
      · exact Or.inl h
      · exact Or.inr (fun g off e => Nat.le_trans hb2.size (h g off e)))
    have Z3 := Lib.hid ZJ.1
    have J3 := Lib.hid ZJ.2
    unfold putAll putAll putAll at Z3 J3
    simp only [Nat.zero_add] at Z3 J3
    clear ZJ j0 j1 i0 i1 f0 f1 BS KS BT KT hb2 hb4 hl2 hc2 hq2 RS HS SR XD KD X4D
    go_wp2_with fail
    conv => arg 2; whnf
    go_upto_region 6 with fail
    generalize World.setCell _ ⟨b4, 1, none⟩ _ = w3 at Z3 J3 ⊢
    have SK : Hid (∀ W, Sz w b4 b5 b6 b8 jb mb most (l.map It.k) q q2 c2 lk (⟨kd, ⟨nm, v, pp, d, ma, hm, ex, he, sc, ht, sm⟩, host, path, sec, now⟩ : OpC) W → W.cell? ⟨b4, 0, none⟩ = some (.int .i64 most) ∧ W.cell? ⟨b4, 1, none⟩ = some (.slice q2 lk.length c2) ∧ W.cell? ⟨b5, 1, none⟩ = some (.string (bs nm)) ∧ W.cell? ⟨b5, 2, none⟩ = some (.string (bs v)) ∧ W.cell? ⟨b5, 3, none⟩ = some (.string (bs pp)) ∧ W.cell? ⟨b5, 4, none⟩ = some (.string (bs d)) ∧ W.cell? ⟨b5, 5, none⟩ = some (.int .i64 ma) ∧ W.cell? ⟨b5, 6, none⟩ = some (.bool hm) ∧ W.cell? ⟨b5, 7, none⟩ = some (.int .i64 ex) ∧ W.cell? ⟨b5, 8, none⟩ = some (.bool he) ∧ W.cell? ⟨b5, 9, none⟩ = some (.bool sc) ∧ W.cell? ⟨b5, 10, none⟩ = some (.bool ht) ∧ W.cell? ⟨b5, 11, none⟩ = some (.int .i64 sm) ∧ W.cell? ⟨b5, 12, none⟩ = some (.string (bs host)) ∧ W.cell? ⟨b5, 13, none⟩ = some (.string (bs path)) ∧ W.cell? ⟨b5, 14, none⟩ = some (.bool sec) ∧ W.cell? ⟨b5, 15, none⟩ = some (.int .i64 now)) := fun W h => ⟨h.k4.at 0 _ rfl, h.k4.at 1 _ rfl, h.k5.at 1 _ rfl, h.k5.at 2 _ rfl, h.k5.at 3 _ rfl, h.k5.at 4 _ rfl, h.k5.at 5 _ rfl, h.k5.at 6 _ rfl, h.k5.at 7 _ rfl, h.k5.at 8 _ rfl, h.k5.at 9 _ rfl, h.k5.at 10 _ rfl, h.k5.at 11 _ rfl, h.k5.at 12 _ rfl, h.k5.at 13 _ rfl, h.k5.at 14 _ rfl, h.k5.at 15 _ rfl⟩
    have SP : Hid (∀ W, Sz w b4 b5 b6 b8 jb mb most (l.map It.k) q q2 c2 lk (⟨kd, ⟨nm, v, pp, d, ma, hm, ex, he, sc, ht, sm⟩, host, path, sec, now⟩ : OpC) W → ∀ u9 v9, ((W.setCell ⟨b6, 0, none⟩ u9).setCell ⟨b6, 1, none⟩ v9).cell? ⟨b4, 0, none⟩ = some (.int .i64 most) ∧ ((W.setCell ⟨b6, 0, none⟩ u9).setCell ⟨b6, 1, none⟩ v9).cell? ⟨b4, 1, none⟩ = some (.slice q2 lk.length c2) ∧ ((W.setCell ⟨b6, 0, none⟩ u9).setCell ⟨b6, 1, none⟩ v9).cell? ⟨b5, 1, none⟩ = some (.string (bs nm)) ∧ ((W.setCell ⟨b6, 0, none⟩ u9).setCell ⟨b6, 1, none⟩ v9).cell? ⟨b5, 2, none⟩ = some (.string (bs v)) ∧ ((W.setCell ⟨b6, 0, none⟩ u9).setCell ⟨b6, 1, none⟩ v9).cell? ⟨b5, 3, none⟩ = some (.string (bs pp)) ∧ ((W.setCell ⟨b6, 0, none⟩ u9).setCell ⟨b6, 1, none⟩ v9).cell? ⟨b5, 4, none⟩ = some (.string (bs d)) ∧ ((W.setCell ⟨b6, 0, none⟩ u9).setCell ⟨b6, 1, none⟩ v9).cell? ⟨b5, 5, none⟩ = some (.int .i64 ma) ∧ ((W.setCell ⟨b6, 0, none⟩ u9).setCell ⟨b6, 1, none⟩ v9).cell? ⟨b5, 6, none⟩ = some (.bool hm) ∧ ((W.setCell ⟨b6, 0, none⟩ u9).setCell ⟨b6, 1, none⟩ v9).cell? ⟨b5, 7, none⟩ = some (.int .i64 ex) ∧ ((W.setCell ⟨b6, 0, none⟩ u9).setCell ⟨b6, 1, none⟩ v9).cell? ⟨b5, 8, none⟩ = some (.bool he) ∧ ((W.setCell ⟨b6, 0, none⟩ u9).setCell ⟨b6, 1, none⟩ v9).cell? ⟨b5, 9, none⟩ = some (.bool sc) ∧ ((W.setCell ⟨b6, 0, none⟩ u9).setCell ⟨b6, 1, none⟩ v9).cell? ⟨b5, 10, none⟩ = some (.bool ht) ∧ ((W.setCell ⟨b6, 0, none⟩ u9).setCell ⟨b6, 1, none⟩ v9).cell? ⟨b5, 11, none⟩ = some (.int .i64 sm) ∧ ((W.setCell ⟨b6, 0, none⟩ u9).setCell ⟨b6, 1, none⟩ v9).cell? ⟨b5, 12, none⟩ = some (.string (bs host)) ∧ ((W.setCell ⟨b6, 0, none⟩ u9).setCell ⟨b6, 1, none⟩ v9).cell? ⟨b5, 13, none⟩ = some (.string (bs path)) ∧ ((W.setCell ⟨b6, 0, none⟩ u9).setCell ⟨b6, 1, none⟩ v9).cell? ⟨b5, 14, none⟩ = some (.bool sec) ∧ ((W.setCell ⟨b6, 0, none⟩ u9).setCell ⟨b6, 1, none⟩ v9).cell? ⟨b5, 15, none⟩ = some (.int .i64 now)) := fun W h u9 v9 =>
      ⟨((h.k4.other (fun e => NE.out.2.1 e.symm) 0 u9).other (fun e => NE.out.2.1 e.symm) 1 v9).at 0 _ rfl, ((h.k4.other (fun e => NE.out.2.1 e.symm) 0 u9).other (fun e => NE.out.2.1 e.symm) 1 v9).at 1 _ rfl, ((h.k5.other (fun e => NE.out.2.2.2.1 e.symm) 0 u9).other (fun e => NE.out.2.2.2.1 e.symm) 1 v9).at 1 _ rfl, ((h.k5.other (fun e => NE.out.2.2.2.1 e.symm) 0 u9).other (fun e => NE.out.2.2.2.1 e.symm) 1 v9).at 2 _ rfl, ((h.k5.other (fun e => NE.out.2.2.2.1 e.symm) 0 u9).other (fun e => NE.out.2.2.2.1 e.symm) 1 v9).at 3 _ rfl, ((h.k5.other (fun e => NE.out.2.2.2.1 e.symm) 0 u9).other (fun e => NE.out.2.2.2.1 e.symm) 1 v9).at 4 _ rfl, ((h.k5.other (fun e => NE.out.2.2.2.1 e.symm) 0 u9).other (fun e => NE.out.2.2.2.1 e.symm) 1 v9).at 5 _ rfl, ((h.k5.other (fun e => NE.out.2.2.2.1 e.symm) 0 u9).other (fun e => NE.out.2.2.2.1 e.symm) 1 v9).at 6 _ rfl, ((h.k5.other (fun e => NE.out.2.2.2.1 e.symm) 0 u9).other (fun e => NE.out.2.2.2.1 e.symm) 1 v9).at 7 _ rfl, ((h.k5.other (fun e => NE.out.2.2.2.1 e.symm) 0 u9).other (fun e => NE.out.2.2.2.1 e.symm) 1 v9).at 8 _ rfl, ((h.k5.other (fun e => NE.out.2.2.2.1 e.symm) 0 u9).other (fun e => NE.out.2.2.2.1 e.symm) 1 v9).at 9 _ rfl, ((h.k5.other (fun e => NE.out.2.2.2.1 e.symm) 0 u9).other (fun e => NE.out.2.2.2.1 e.symm) 1 v9).at 10 _ rfl, ((h.k5.other (fun e => NE.out.2.2.2.1 e.symm) 0 u9).other (fun e => NE.out.2.2.2.1 e.symm) 1 v9).at 11 _ rfl, ((h.k5.other (fun e => NE.out.2.2.2.1 e.symm) 0 u9).other (fun e => NE.out.2.2.2.1 e.symm) 1 v9).at 12 _ rfl, ((h.k5.other (fun e => NE.out.2.2.2.1 e.symm) 0 u9).other (fun e => NE.out.2.2.2.1 e.symm) 1 v9).at 13 _ rfl, ((h.k5.other (fun e => NE.out.2.2.2.1 e.symm) 0 u9).other (fun e => NE.out.2.2.2.1 e.symm) 1 v9).at 14 _ rfl, ((h.k5.other (fun e => NE.out.2.2.2.1 e.symm) 0 u9).other (fun e => NE.out.2.2.2.1 e.symm) 1 v9).at 15 _ rfl⟩
    have bd := (Below.refl w3.heap.size w3).drew
    have ZD := Lib.hid (Z3.out.next bd)
    have JD := Lib.hid (J3.out.next bd)
    have z0 := ZD.out.k6.at 0 _ rfl
    have z1 := ZD.out.k6.at 1 _ rfl
    have y0 := ZD.out.k6.free 0
    have y1 := ZD.out.k6.free 1
    clear Z3 J3 bd
    go_region_held3 (fun W => W.cell? ⟨b4, 0, none⟩ = some (.int .i64 most) ∧ W.cell? ⟨b4, 1, none⟩ = some (.slice q2 lk.length c2) ∧ W.cell? ⟨b5, 1, none⟩ = some (.string (bs nm)) ∧ W.cell? ⟨b5, 2, none⟩ = some (.string (bs v)) ∧ W.cell? ⟨b5, 3, none⟩ = some (.string (bs pp)) ∧ W.cell? ⟨b5, 4, none⟩ = some (.string (bs d)) ∧ W.cell? ⟨b5, 5, none⟩ = some (.int .i64 ma) ∧ W.cell? ⟨b5, 6, none⟩ = some (.bool hm) ∧ W.cell? ⟨b5, 7, none⟩ = some (.int .i64 ex) ∧ W.cell? ⟨b5, 8, none⟩ = some (.bool he) ∧ W.cell? ⟨b5, 9, none⟩ = some (.bool sc) ∧ W.cell? ⟨b5, 10, none⟩ = some (.bool ht) ∧ W.cell? ⟨b5, 11, none⟩ = some (.int .i64 sm) ∧ W.cell? ⟨b5, 12, none⟩ = some (.string (bs host)) ∧ W.cell? ⟨b5, 13, none⟩ = some (.string (bs path)) ∧ W.cell? ⟨b5, 14, none⟩ = some (.bool sec) ∧ W.cell? ⟨b5, 15, none⟩ = some (.int .i64 now))
      (first | with_reducible exact SP.out _ Z4.out _ _ | with_reducible exact SK.out _ Z4.out | with_reducible exact SK.out _ ZD.out)
      ((go_at_call 26; refine (PS.out _ JD.out ZD.out.K.size (HENV.out _ ZD.out.K)).mono ?_; rintro e w5 ⟨rfl, hk4, l4, n4, hj4, hl4, hn4⟩; have Z4 := Lib.hid (ZD.out.jar hk4); have z0 := Z4.out.k6.at 0 _ rfl; have z1 := Z4.out.k6.at 1 _ rfl; have y0 := Z4.out.k6.free 0; have y1 := Z4.out.k6.free 1))
    have F := Z4.out.out hj4 hl4 hn4
    clear SK SP PS z0 z1 y0 y1
    go_wp2_with fail
    exact HRT.out _ _ _ _ _ _ _ _ _ _ _ _ _ _ _ _ _ _ _ _ _ _ _ _ _ _ _ _ _ _ _ _ _ _ _ _ _ _ _ _ _ _ _ _ _ _ _ _ _ _ _ _ _ _ _ _ _ _ _ _ _ _ _ _ _ _ _ _ _ _ _ _ _ _ _ _ _ _ _ _ _ _ _ _ _ _ _ _ _ _ _ _ _ _ q2 c2 l4 n4 _ F.1 (F.2.at 0 _ rfl) (by rw [hl4]; exact F.2.at 1 _ rfl)
  · go_simp
    go_at_call 19
    refine (HS.out _).mono ?_
    rintro e w2 ⟨rfl, hb2⟩
    have BS := Lib.hid (X4D.out.next hb2)
    have KS : Hid (_ ∧ _) := ⟨KD.out.1.next hb2, KD.out.2.next hb2⟩
    have i0 := BS.out.at 0 _ rfl
    have i1 := BS.out.at 1 _ rfl
    go_wp2_with fail
    refine hK.out _ _ (SR.out _ KS.out.1 KS.out.2) (fun hHeld => ?_)
    clear hK K
    try simp only [Act.put, List.setIfInBounds_toArray, List.set_cons_zero, List.set_cons_succ]
    refine wpAnyH_ready (rs := [0]) (by kernel_rfl) (by simp) ?_
    refine AllReadyH.cons rfl (fun K hK => ?_) AllReadyH.nil
    go_simp
    refine hK.out _ _ (SR.out _ KS.out.1 KS.out.2) (fun hHeld => ?_)
    clear hK K
    try simp only [Act.put, List.setIfInBounds_toArray, List.set_cons_zero, List.set_cons_succ]
    refine wpAnyH_ready (rs := [5]) (by kernel_rfl) (by simp) ?_
    refine AllReadyH.cons rfl (fun K hK => ?_) AllReadyH.nil
    go_simp
    go_at_call 25
    refine (RS.out _ hb2).mono ?_
    rintro e w4 ⟨⟨q2, c2, rfl, hc2, hl2, hq2⟩, hb4⟩
    have BT := Lib.hid (BS.out.next hb4)
    have KT : Hid (_ ∧ _) := ⟨KS.out.1.next hb4, KS.out.2.next hb4⟩
    have i0 := BT.out.at 0 _ rfl
    have i1 := BT.out.at 1 _ rfl
    have f0 := BT.out.free 0
    have f1 := BT.out.free 1
    go_wp2_with fail
    refine hK.out _ _ (SR.out _ KT.out.1 KT.out.2) (fun hHeld => ?_)
    clear hK K
    try simp only [Act.put, List.setIfInBounds_toArray, List.set_cons_zero, List.set_cons_succ]
    refine wpAnyH_take (i := 6) (v := ?_) rfl (by kernel_rfl) (by kernel_rfl) (by kernel_rfl) (fun _ _ _ h => h) (Or.inl ⟨by rfl, ?_⟩) (by assumption) ?_
    rotate_left
    · intro W hSw
      (try dsimp only at hSw)
      go_simp
      (try with_reducible rfl)
    simp only [Act.put, List.setIfInBounds_toArray]
    refine wpAnyH_take (i := 7) (v := ?_) rfl (by kernel_rfl) (by kernel_rfl) (by kernel_rfl) (fun _ _ _ h => h) (Or.inl ⟨by rfl, ?_⟩) (by assumption) ?_
    rotate_left
    · intro W hSw
      (try dsimp only at hSw)
      go_simp
      (try with_reducible rfl)
    simp only [Act.put]
    refine wpAnyH_take (i := 8) (v := ?_) rfl (by kernel_rfl) (by kernel_rfl) (by kernel_rfl) (fun _ _ _ h => h) (Or.inl ⟨by rfl, ?_⟩) (by assumption) ?_
    rotate_left
    · intro W hSw
      (try dsimp only at hSw)
      go_simp
      (try with_reducible rfl)
    simp only [Act.put]
    refine wpAnyH_ready (rs := [9]) (by kernel_rfl) (by simp) ?_
    refine AllReadyH.cons rfl (fun K hK => ?_) AllReadyH.nil
    go_simp
    refine hK.out _ _ (SR.out _ ((KT.out.1.other NE.out.1 _ _).other NE.out.1 _ _) ((KT.out.2.other NE.out.2.2.1 _ _).other NE.out.2.2.1 _ _)) (fun hHeld => ?_)
    clear hK K
    try simp only [Act.put, List.setIfInBounds_toArray, List.set_cons_zero, List.set_cons_succ]
    refine wpAnyH_take (i := 10) (v := ?_) rfl (by kernel_rfl) (by kernel_rfl) (by kernel_rfl) (fun _ _ _ h => h) (Or.inl ⟨by rfl, ?_⟩) (by assumption) ?_
    rotate_left
    · intro W hSw
      (try dsimp only at hSw)
      go_simp
      (try with_reducible rfl)
    simp only [Act.put, List.setIfInBounds_toArray]
    simp only [List.getElem_toArray, List.getElem_cons_succ, List.getElem_cons_zero, List.set_cons_zero, List.set_cons_succ]
    refine wpAnyH_done (by kernel_rfl) (NoPanic.normal ?_) _
    have ZJ := XD.out.put (hb2.trans (hb4.mono hb2.size)) hl2 hc2 (by
      rcases hq2 with h | h
      · exact Or.inl h
      · exact Or.inr (fun g off e => Nat.le_trans hb2.size (h g off e)))
    have Z3 := Lib.hid ZJ.1
    have J3 := Lib.hid ZJ.2
    unfold putAll putAll putAll at Z3 J3
    simp only [Nat.zero_add] at Z3 J3
    clear ZJ j0 j1 i0 i1 f0 f1 BS KS BT KT hb2 hb4 hl2 hc2 hq2 RS HS SR XD KD X4D
    go_wp2_with fail
    conv => arg 2; whnf
    go_upto_region 6 with fail
    generalize World.setCell _ ⟨b4, 1, none⟩ _ = w3 at Z3 J3 ⊢
    have SK : Hid (∀ W, Sz w b4 b5 b6 b8 jb mb most (l.map It.k) q q2 c2 lk (⟨kd, ⟨nm, v, pp, d, ma, hm, ex, he, sc, ht, sm⟩, host, path, sec, now⟩ : OpC) W → W.cell? ⟨b4, 0, none⟩ = some (.int .i64 most) ∧ W.cell? ⟨b4, 1, none⟩ = some (.slice q2 lk.length c2) ∧ W.cell? ⟨b5, 1, none⟩ = some (.string (bs nm)) ∧ W.cell? ⟨b5, 2, none⟩ = some (.string (bs v)) ∧ W.cell? ⟨b5, 3, none⟩ = some (.string (bs pp)) ∧ W.cell? ⟨b5, 4, none⟩ = some (.string (bs d)) ∧ W.cell? ⟨b5, 5, none⟩ = some (.int .i64 ma) ∧ W.cell? ⟨b5, 6, none⟩ = some (.bool hm) ∧ W.cell? ⟨b5, 7, none⟩ = some (.int .i64 ex) ∧ W.cell? ⟨b5, 8, none⟩ = some (.bool he) ∧ W.cell? ⟨b5, 9, none⟩ = some (.bool sc) ∧ W.cell? ⟨b5, 10, none⟩ = some (.bool ht) ∧ W.cell? ⟨b5, 11, none⟩ = some (.int .i64 sm) ∧ W.cell? ⟨b5, 12, none⟩ = some (.string (bs host)) ∧ W.cell? ⟨b5, 13, none⟩ = some (.string (bs path)) ∧ W.cell? ⟨b5, 14, none⟩ = some (.bool sec) ∧ W.cell? ⟨b5, 15, none⟩ = some (.int .i64 now)) := fun W h => ⟨h.k4.at 0 _ rfl, h.k4.at 1 _ rfl, h.k5.at 1 _ rfl, h.k5.at 2 _ rfl, h.k5.at 3 _ rfl, h.k5.at 4 _ rfl, h.k5.at 5 _ rfl, h.k5.at 6 _ rfl, h.k5.at 7 _ rfl, h.k5.at 8 _ rfl, h.k5.at 9 _ rfl, h.k5.at 10 _ rfl, h.k5.at 11 _ rfl, h.k5.at 12 _ rfl, h.k5.at 13 _ rfl, h.k5.at 14 _ rfl, h.k5.at 15 _ rfl⟩
    have SP : Hid (∀ W, Sz w b4 b5 b6 b8 jb mb most (l.map It.k) q q2 c2 lk (⟨kd, ⟨nm, v, pp, d, ma, hm, ex, he, sc, ht, sm⟩, host, path, sec, now⟩ : OpC) W → ∀ u9 v9, ((W.setCell ⟨b6, 0, none⟩ u9).setCell ⟨b6, 1, none⟩ v9).cell? ⟨b4, 0, none⟩ = some (.int .i64 most) ∧ ((W.setCell ⟨b6, 0, none⟩ u9).setCell ⟨b6, 1, none⟩ v9).cell? ⟨b4, 1, none⟩ = some (.slice q2 lk.length c2) ∧ ((W.setCell ⟨b6, 0, none⟩ u9).setCell ⟨b6, 1, none⟩ v9).cell? ⟨b5, 1, none⟩ = some (.string (bs nm)) ∧ ((W.setCell ⟨b6, 0, none⟩ u9).setCell ⟨b6, 1, none⟩ v9).cell? ⟨b5, 2, none⟩ = some (.string (bs v)) ∧ ((W.setCell ⟨b6, 0, none⟩ u9).setCell ⟨b6, 1, none⟩ v9).cell? ⟨b5, 3, none⟩ = some (.string (bs pp)) ∧ ((W.setCell ⟨b6, 0, none⟩ u9).setCell ⟨b6, 1, none⟩ v9).cell? ⟨b5, 4, none⟩ = some (.string (bs d)) ∧ ((W.setCell ⟨b6, 0, none⟩ u9).setCell ⟨b6, 1, none⟩ v9).cell? ⟨b5, 5, none⟩ = some (.int .i64 ma) ∧ ((W.setCell ⟨b6, 0, none⟩ u9).setCell ⟨b6, 1, none⟩ v9).cell? ⟨b5, 6, none⟩ = some (.bool hm) ∧ ((W.setCell ⟨b6, 0, none⟩ u9).setCell ⟨b6, 1, none⟩ v9).cell? ⟨b5, 7, none⟩ = some (.int .i64 ex) ∧ ((W.setCell ⟨b6, 0, none⟩ u9).setCell ⟨b6, 1, none⟩ v9).cell? ⟨b5, 8, none⟩ = some (.bool he) ∧ ((W.setCell ⟨b6, 0, none⟩ u9).setCell ⟨b6, 1, none⟩ v9).cell? ⟨b5, 9, none⟩ = some (.bool sc) ∧ ((W.setCell ⟨b6, 0, none⟩ u9).setCell ⟨b6, 1, none⟩ v9).cell? ⟨b5, 10, none⟩ = some (.bool ht) ∧ ((W.setCell ⟨b6, 0, none⟩ u9).setCell ⟨b6, 1, none⟩ v9).cell? ⟨b5, 11, none⟩ = some (.int .i64 sm) ∧ ((W.setCell ⟨b6, 0, none⟩ u9).setCell ⟨b6, 1, none⟩ v9).cell? ⟨b5, 12, none⟩ = some (.string (bs host)) ∧ ((W.setCell ⟨b6, 0, none⟩ u9).setCell ⟨b6, 1, none⟩ v9).cell? ⟨b5, 13, none⟩ = some (.string (bs path)) ∧ ((W.setCell ⟨b6, 0, none⟩ u9).setCell ⟨b6, 1, none⟩ v9).cell? ⟨b5, 14, none⟩ = some (.bool sec) ∧ ((W.setCell ⟨b6, 0, none⟩ u9).setCell ⟨b6, 1, none⟩ v9).cell? ⟨b5, 15, none⟩ = some (.int .i64 now)) := fun W h u9 v9 =>
      ⟨((h.k4.other (fun e => NE.out.2.1 e.symm) 0 u9).other (fun e => NE.out.2.1 e.symm) 1 v9).at 0 _ rfl, ((h.k4.other (fun e => NE.out.2.1 e.symm) 0 u9).other (fun e => NE.out.2.1 e.symm) 1 v9).at 1 _ rfl, ((h.k5.other (fun e => NE.out.2.2.2.1 e.symm) 0 u9).other (fun e => NE.out.2.2.2.1 e.symm) 1 v9).at 1 _ rfl, ((h.k5.other (fun e => NE.out.2.2.2.1 e.symm) 0 u9).other (fun e => NE.out.2.2.2.1 e.symm) 1 v9).at 2 _ rfl, ((h.k5.other (fun e => NE.out.2.2.2.1 e.symm) 0 u9).other (fun e => NE.out.2.2.2.1 e.symm) 1 v9).at 3 _ rfl, ((h.k5.other (fun e => NE.out.2.2.2.1 e.symm) 0 u9).other (fun e => NE.out.2.2.2.1 e.symm) 1 v9).at 4 _ rfl, ((h.k5.other (fun e => NE.out.2.2.2.1 e.symm) 0 u9).other (fun e => NE.out.2.2.2.1 e.symm) 1 v9).at 5 _ rfl, ((h.k5.other (fun e => NE.out.2.2.2.1 e.symm) 0 u9).other (fun e => NE.out.2.2.2.1 e.symm) 1 v9).at 6 _ rfl, ((h.k5.other (fun e => NE.out.2.2.2.1 e.symm) 0 u9).other (fun e => NE.out.2.2.2.1 e.symm) 1 v9).at 7 _ rfl, ((h.k5.other (fun e => NE.out.2.2.2.1 e.symm) 0 u9).other (fun e => NE.out.2.2.2.1 e.symm) 1 v9).at 8 _ rfl, ((h.k5.other (fun e => NE.out.2.2.2.1 e.symm) 0 u9).other (fun e => NE.out.2.2.2.1 e.symm) 1 v9).at 9 _ rfl, ((h.k5.other (fun e => NE.out.2.2.2.1 e.symm) 0 u9).other (fun e => NE.out.2.2.2.1 e.symm) 1 v9).at 10 _ rfl, ((h.k5.other (fun e => NE.out.2.2.2.1 e.symm) 0 u9).other (fun e => NE.out.2.2.2.1 e.symm) 1 v9).at 11 _ rfl, ((h.k5.other (fun e => NE.out.2.2.2.1 e.symm) 0 u9).other (fun e => NE.out.2.2.2.1 e.symm) 1 v9).at 12 _ rfl, ((h.k5.other (fun e => NE.out.2.2.2.1 e.symm) 0 u9).other (fun e => NE.out.2.2.2.1 e.symm) 1 v9).at 13 _ rfl, ((h.k5.other (fun e => NE.out.2.2.2.1 e.symm) 0 u9).other (fun e => NE.out.2.2.2.1 e.symm) 1 v9).at 14 _ rfl, ((h.k5.other (fun e => NE.out.2.2.2.1 e.symm) 0 u9).other (fun e => NE.out.2.2.2.1 e.symm) 1 v9).at 15 _ rfl⟩
    have bd := (Below.refl w3.heap.size w3).drew
    have ZD := Lib.hid (Z3.out.next bd)
    have JD := Lib.hid (J3.out.next bd)
    have z0 := ZD.out.k6.at 0 _ rfl
    have z1 := ZD.out.k6.at 1 _ rfl
    have y0 := ZD.out.k6.free 0
    have y1 := ZD.out.k6.free 1
    clear Z3 J3 bd
    go_region_held3 (fun W => W.cell? ⟨b4, 0, none⟩ = some (.int .i64 most) ∧ W.cell? ⟨b4, 1, none⟩ = some (.slice q2 lk.length c2) ∧ W.cell? ⟨b5, 1, none⟩ = some (.string (bs nm)) ∧ W.cell? ⟨b5, 2, none⟩ = some (.string (bs v)) ∧ W.cell? ⟨b5, 3, none⟩ = some (.string (bs pp)) ∧ W.cell? ⟨b5, 4, none⟩ = some (.string (bs d)) ∧ W.cell? ⟨b5, 5, none⟩ = some (.int .i64 ma) ∧ W.cell? ⟨b5, 6, none⟩ = some (.bool hm) ∧ W.cell? ⟨b5, 7, none⟩ = some (.int .i64 ex) ∧ W.cell? ⟨b5, 8, none⟩ = some (.bool he) ∧ W.cell? ⟨b5, 9, none⟩ = some (.bool sc) ∧ W.cell? ⟨b5, 10, none⟩ = some (.bool ht) ∧ W.cell? ⟨b5, 11, none⟩ = some (.int .i64 sm) ∧ W.cell? ⟨b5, 12, none⟩ = some (.string (bs host)) ∧ W.cell? ⟨b5, 13, none⟩ = some (.string (bs path)) ∧ W.cell? ⟨b5, 14, none⟩ = some (.bool sec) ∧ W.cell? ⟨b5, 15, none⟩ = some (.int .i64 now))
      (first | with_reducible exact SP.out _ Z4.out _ _ | with_reducible exact SK.out _ Z4.out | with_reducible exact SK.out _ ZD.out)
      ((go_at_call 26; refine (PS.out _ JD.out ZD.out.K.size (HENV.out _ ZD.out.K)).mono ?_; rintro e w5 ⟨rfl, hk4, l4, n4, hj4, hl4, hn4⟩; have Z4 := Lib.hid (ZD.out.jar hk4); have z0 := Z4.out.k6.at 0 _ rfl; have z1 := Z4.out.k6.at 1 _ rfl; have y0 := Z4.out.k6.free 0; have y1 := Z4.out.k6.free 1))
    have F := Z4.out.out hj4 hl4 hn4
    clear SK SP PS z0 z1 y0 y1
    go_wp2_with fail
    exact HRT.out _ _ _ _ _ _ _ _ _ _ _ _ _ _ _ _ _ _ _ _ _ _ _ _ _ _ _ _ _ _ _ _ _ _ _ _ _ _ _ _ _ _ _ _ _ _ _ _ _ _ _ _ _ _ _ _ _ _ _ _ _ _ _ _ _ _ _ _ _ _ _ _ _ _ _ _ _ _ _ _ _ _ _ _ _ _ _ _ _ _ _ _ _ _ q2 c2 l4 n4 _ F.1 (F.2.at 0 _ rfl) (by rw [hl4]; exact F.2.at 1 _ rfl)
end Go.Proofs.YtkenianfpfamcaaGreatDoor
