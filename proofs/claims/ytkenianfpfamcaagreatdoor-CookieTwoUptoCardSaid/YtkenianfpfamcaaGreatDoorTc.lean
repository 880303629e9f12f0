/- The law's step: the arms of Len and All. The law's step: the arm of Sweep; what both jars are behind a call. -/
import Derived.Test.YtkenianfpfamcaaGreatDoorTb
namespace Go.Proofs.YtkenianfpfamcaaGreatDoor
open Go Go.RowKit
set_option maxHeartbeats 16000000

noncomputable def stepFrom13 : Code := ((Tryz.f32.body.bind (fromReg 13)).getD .skip)
set_option maxRecDepth 100000 in
theorem step_t13 {Q : Exit → Act → World → Prop} {K : Act → World → Prop} (hK : ∀ a w, Code.wp Tryz.prog (seqTl stepFrom13) Q a w → K a w) {w w1 : World} {jv : Value} {jb mb most n b4 b5 b6 b8 : Nat} {q : Option Addr} {cap : Nat} {l : List It} {nm v pp d : List UInt8} {ma : Int} {hm : Bool} {ex : Int} {he sc ht : Bool} {sm kd : Int} {host path : List UInt8} {sec : Bool} {now : Int}
    (X : Hid (Sx w b4 b5 b6 b8 jv jb mb most n q cap l (⟨kd, ⟨nm, v, pp, d, ma, hm, ex, he, sc, ht, sm⟩, host, path, sec, now⟩ : OpC) w1)) (hn : n ≤ 549755813888) 
    {c1 c2 c3 c7 c9 c10 c11 c12 c13 c14 c15 c16 c17 c18 c19 c20 c21 c22 c23 c24 c25 c26 c27 c28 c29 c30 c31 c32 c33 c34 c35 c36 c37 c38 c39 c40 c41 c42 c43 c44 c45 c46 c47 c48 c49 c50 c51 c52 c53 c54 c55 c56 c57 c58 c59 c60 c61 c62 c63 c64 c65 c66 c67 c68 c69 c70 c71 c72 c73 c74 c75 c76 c77 c78 c79 c80 c81 c82 c83 c84 c85 c86 c87 c88 c89 c90 c91 c92 c93 c94 c95 : Value}
    (hret : ∀ (d0 d1 d2 d3 d4 d5 d8 d9 d10 d11 d12 d13 d14 d15 d16 d17 d18 d19 d20 d21 d22 d23 d24 d25 d26 d27 d28 d29 d30 d31 d32 d33 d34 d35 d36 d37 d38 d39 d40 d41 d42 d43 d44 d45 d46 d47 d48 d49 d50 d51 d52 d53 d54 d55 d56 d57 d58 d59 d60 d61 d62 d63 d64 d65 d66 d67 d68 d69 d70 d71 d72 d73 d74 d75 d76 d77 d78 d79 d80 d81 d82 d83 d84 d85 d86 d87 d88 d89 d90 d91 d92 d93 d94 d95 : Value) (q9 : Option Addr) (cap9 : Nat) (l9 : List It) (n9 : Nat) (w0 : World), StepOut w jv jb mb most n (l.map It.k) q q9 cap9 l9 n9 w0 → w0.cell? ⟨b6, 0, none⟩ = some (.int .i64 most) → w0.cell? ⟨b6, 1, none⟩ = some (.slice q9 (l9.map It.k).length cap9) → Q .ret ⟨List.toArray (d0 :: d1 :: d2 :: d3 :: d4 :: d5 :: .pointer (some ⟨b6, 0, none⟩) :: .bool true :: d8 :: d9 :: d10 :: d11 :: d12 :: d13 :: d14 :: d15 :: d16 :: d17 :: d18 :: d19 :: d20 :: d21 :: d22 :: d23 :: d24 :: d25 :: d26 :: d27 :: d28 :: d29 :: d30 :: d31 :: d32 :: d33 :: d34 :: d35 :: d36 :: d37 :: d38 :: d39 :: d40 :: d41 :: d42 :: d43 :: d44 :: d45 :: d46 :: d47 :: d48 :: d49 :: d50 :: d51 :: d52 :: d53 :: d54 :: d55 :: d56 :: d57 :: d58 :: d59 :: d60 :: d61 :: d62 :: d63 :: d64 :: d65 :: d66 :: d67 :: d68 :: d69 :: d70 :: d71 :: d72 :: d73 :: d74 :: d75 :: d76 :: d77 :: d78 :: d79 :: d80 :: d81 :: d82 :: d83 :: d84 :: d85 :: d86 :: d87 :: d88 :: d89 :: d90 :: d91 :: d92 :: d93 :: d94 :: d95 :: []), []⟩ w0) :
    Code.wp Tryz.prog (seqHd stepFrom13) (Exit.then K Q) ⟨List.toArray (jv :: c1 :: c2 :: c3 :: .pointer (some ⟨b4, 0, none⟩) :: .pointer (some ⟨b5, 0, none⟩) :: .pointer (some ⟨b6, 0, none⟩) :: c7 :: .pointer (some ⟨b8, 0, none⟩) :: c9 :: c10 :: c11 :: c12 :: c13 :: c14 :: c15 :: c16 :: c17 :: c18 :: c19 :: c20 :: c21 :: c22 :: c23 :: c24 :: c25 :: c26 :: c27 :: c28 :: c29 :: c30 :: c31 :: c32 :: c33 :: c34 :: c35 :: c36 :: c37 :: c38 :: c39 :: c40 :: c41 :: c42 :: c43 :: c44 :: c45 :: c46 :: c47 :: c48 :: c49 :: c50 :: c51 :: c52 :: c53 :: c54 :: c55 :: c56 :: c57 :: c58 :: c59 :: c60 :: c61 :: c62 :: c63 :: c64 :: c65 :: c66 :: c67 :: c68 :: c69 :: c70 :: c71 :: c72 :: c73 :: c74 :: c75 :: c76 :: c77 :: c78 :: c79 :: c80 :: c81 :: c82 :: c83 :: c84 :: c85 :: c86 :: c87 :: c88 :: c89 :: c90 :: c91 :: c92 :: c93 :: c94 :: c95 :: []), []⟩ w1 := by
  have HRT := Lib.hid hret
  clear hret
  have hmost := X.out.j.most
  have hlen := X.out.j.len
  have HMK : Hid ((l.map It.k).length = l.length) := List.length_map ..
  have NE := Lib.hid X.out.ne
  have PL := Lib.hid (fun W (hW : Below w1.heap.size w1 W) => jv_len W jv jb mb most n l (X.out.j.next hW) (by omega))
  rw [← HMK.out] at PL
  have X4 := Lib.hid X.out.k4
  obtain ⟨kn, hkn⟩ := name_it (l.map It.k).length
  have HKN : Hid ((l.map It.k).length = kn) := hkn
  rw [hkn.out] at X4 PL
  clear hkn hmost hlen HMK
  have SK : Hid (∀ W, Below w1.heap.size w1 W → W.cell? ⟨b4, 0, none⟩ = some (.int .i64 most) ∧ W.cell? ⟨b4, 1, none⟩ = some (.slice q kn cap)) := fun W hW => ⟨(X4.out.next hW).at 0 _ rfl, (X4.out.next hW).at 1 _ rfl⟩
  have SP : Hid (∀ W, Below w1.heap.size w1 W → ∀ u v, ((W.setCell ⟨b6, 0, none⟩ u).setCell ⟨b6, 1, none⟩ v).cell? ⟨b4, 0, none⟩ = some (.int .i64 most) ∧ ((W.setCell ⟨b6, 0, none⟩ u).setCell ⟨b6, 1, none⟩ v).cell? ⟨b4, 1, none⟩ = some (.slice q kn cap)) := fun W hW u v =>
    ⟨(((X4.out.next hW).other (fun e => NE.out.2.1 e.symm) 0 u).other (fun e => NE.out.2.1 e.symm) 1 v).at 0 _ rfl, (((X4.out.next hW).other (fun e => NE.out.2.1 e.symm) 0 u).other (fun e => NE.out.2.1 e.symm) 1 v).at 1 _ rfl⟩
  have BD := Lib.hid (Below.refl w1.heap.size w1).drew
  have X0 := Lib.hid (X.out.k6.next BD.out)
  have z0 := X0.out.at 0 _ rfl
  have z1 := X0.out.at 1 _ rfl
  have y0 := X0.out.free 0
  have y1 := X0.out.free 1
  conv => arg 2; whnf
  go_region_held3 (fun W => W.cell? ⟨b4, 0, none⟩ = some (.int .i64 most) ∧ W.cell? ⟨b4, 1, none⟩ = some (.slice q kn cap))
    (first | with_reducible exact SK.out _ BD.out | with_reducible exact SP.out _ BD.out _ _)
    (first
    | (go_at_call 34; refine (PL.out _ BD.out).mono ?_; rintro e w2 ⟨rfl, b2⟩; have BD := Lib.hid (BD.out.trans (b2.mono BD.out.size)); have X0 := Lib.hid (X.out.k6.next BD.out); have z0 := X0.out.at 0 _ rfl; have z1 := X0.out.at 1 _ rfl; have y0 := X0.out.free 0; have y1 := X0.out.free 1))
  have F := Sx.out (X.out.next BD.out)
  rw [HKN.out] at F
  clear SK SP z0 z1 y0 y1 PL
  go_wp2_with fail
  conv => arg 2; whnf
  go_wp2_with fail
  exact HRT.out _ _ _ _ _ _ _ _ _ _ _ _ _ _ _ _ _ _ _ _ _ _ _ _ _ _ _ _ _ _ _ _ _ _ _ _ _ _ _ _ _ _ _ _ _ _ _ _ _ _ _ _ _ _ _ _ _ _ _ _ _ _ _ _ _ _ _ _ _ _ _ _ _ _ _ _ _ _ _ _ _ _ _ _ _ _ _ _ _ _ _ _ _ _ q cap l n _ F.1 (F.2.at 0 _ rfl) (by rw [HKN.out]; exact F.2.at 1 _ rfl)
noncomputable def stepFrom14 : Code := ((Tryz.f32.body.bind (fromReg 14)).getD .skip)
set_option maxRecDepth 100000 in
theorem step_t14 {Q : Exit → Act → World → Prop} {K : Act → World → Prop} (hK : ∀ a w, Code.wp Tryz.prog (seqTl stepFrom14) Q a w → K a w) {w w1 : World} {jv : Value} {jb mb most n b4 b5 b6 b8 : Nat} {q : Option Addr} {cap : Nat} {l : List It} {nm v pp d : List UInt8} {ma : Int} {hm : Bool} {ex : Int} {he sc ht : Bool} {sm kd : Int} {host path : List UInt8} {sec : Bool} {now : Int}
    (X : Hid (Sx w b4 b5 b6 b8 jv jb mb most n q cap l (⟨kd, ⟨nm, v, pp, d, ma, hm, ex, he, sc, ht, sm⟩, host, path, sec, now⟩ : OpC) w1)) (hn : n ≤ 549755813888) 
    {c1 c2 c3 c7 c9 c10 c11 c12 c13 c14 c15 c16 c17 c18 c19 c20 c21 c22 c23 c24 c25 c26 c27 c28 c29 c30 c31 c32 c33 c34 c35 c36 c37 c38 c39 c40 c41 c42 c43 c44 c45 c46 c47 c48 c49 c50 c51 c52 c53 c54 c55 c56 c57 c58 c59 c60 c61 c62 c63 c64 c65 c66 c67 c68 c69 c70 c71 c72 c73 c74 c75 c76 c77 c78 c79 c80 c81 c82 c83 c84 c85 c86 c87 c88 c89 c90 c91 c92 c93 c94 c95 : Value}
    (hret : ∀ (d0 d1 d2 d3 d4 d5 d8 d9 d10 d11 d12 d13 d14 d15 d16 d17 d18 d19 d20 d21 d22 d23 d24 d25 d26 d27 d28 d29 d30 d31 d32 d33 d34 d35 d36 d37 d38 d39 d40 d41 d42 d43 d44 d45 d46 d47 d48 d49 d50 d51 d52 d53 d54 d55 d56 d57 d58 d59 d60 d61 d62 d63 d64 d65 d66 d67 d68 d69 d70 d71 d72 d73 d74 d75 d76 d77 d78 d79 d80 d81 d82 d83 d84 d85 d86 d87 d88 d89 d90 d91 d92 d93 d94 d95 : Value) (q9 : Option Addr) (cap9 : Nat) (l9 : List It) (n9 : Nat) (w0 : World), StepOut w jv jb mb most n (l.map It.k) q q9 cap9 l9 n9 w0 → w0.cell? ⟨b6, 0, none⟩ = some (.int .i64 most) → w0.cell? ⟨b6, 1, none⟩ = some (.slice q9 (l9.map It.k).length cap9) → Q .ret ⟨List.toArray (d0 :: d1 :: d2 :: d3 :: d4 :: d5 :: .pointer (some ⟨b6, 0, none⟩) :: .bool true :: d8 :: d9 :: d10 :: d11 :: d12 :: d13 :: d14 :: d15 :: d16 :: d17 :: d18 :: d19 :: d20 :: d21 :: d22 :: d23 :: d24 :: d25 :: d26 :: d27 :: d28 :: d29 :: d30 :: d31 :: d32 :: d33 :: d34 :: d35 :: d36 :: d37 :: d38 :: d39 :: d40 :: d41 :: d42 :: d43 :: d44 :: d45 :: d46 :: d47 :: d48 :: d49 :: d50 :: d51 :: d52 :: d53 :: d54 :: d55 :: d56 :: d57 :: d58 :: d59 :: d60 :: d61 :: d62 :: d63 :: d64 :: d65 :: d66 :: d67 :: d68 :: d69 :: d70 :: d71 :: d72 :: d73 :: d74 :: d75 :: d76 :: d77 :: d78 :: d79 :: d80 :: d81 :: d82 :: d83 :: d84 :: d85 :: d86 :: d87 :: d88 :: d89 :: d90 :: d91 :: d92 :: d93 :: d94 :: d95 :: []), []⟩ w0) :
    Code.wp Tryz.prog (seqHd stepFrom14) (Exit.then K Q) ⟨List.toArray (jv :: c1 :: c2 :: c3 :: .pointer (some ⟨b4, 0, none⟩) :: .pointer (some ⟨b5, 0, none⟩) :: .pointer (some ⟨b6, 0, none⟩) :: c7 :: .pointer (some ⟨b8, 0, none⟩) :: c9 :: c10 :: c11 :: c12 :: c13 :: c14 :: c15 :: c16 :: c17 :: c18 :: c19 :: c20 :: c21 :: c22 :: c23 :: c24 :: c25 :: c26 :: c27 :: c28 :: c29 :: c30 :: c31 :: c32 :: c33 :: c34 :: c35 :: c36 :: c37 :: c38 :: c39 :: c40 :: c41 :: c42 :: c43 :: c44 :: c45 :: c46 :: c47 :: c48 :: c49 :: c50 :: c51 :: c52 :: c53 :: c54 :: c55 :: c56 :: c57 :: c58 :: c59 :: c60 :: c61 :: c62 :: c63 :: c64 :: c65 :: c66 :: c67 :: c68 :: c69 :: c70 :: c71 :: c72 :: c73 :: c74 :: c75 :: c76 :: c77 :: c78 :: c79 :: c80 :: c81 :: c82 :: c83 :: c84 :: c85 :: c86 :: c87 :: c88 :: c89 :: c90 :: c91 :: c92 :: c93 :: c94 :: c95 :: []), []⟩ w1 := by
  have HRT := Lib.hid hret
  clear hret
  have hmost := X.out.j.most
  have hlen := X.out.j.len
  have HMK : Hid ((l.map It.k).length = l.length) := List.length_map ..
  have NE := Lib.hid X.out.ne
  have PA := Lib.hid (fun W (hW : Below w1.heap.size w1 W) => jv_all W jv jb mb most n l (X.out.j.next hW) (by omega))
  have RA := Lib.hid (fun W (hW : Below w1.heap.size w1 W) => rall_any most q cap (l.map It.k) W (X.out.d.next hW) (by rw [HMK.out]; omega))
  have hal : (allI l).length = (l.map It.k).length := by rw [allI_k]; unfold allJ; rw [List.length_map]
  have hal2 : (allI l).length ≤ 3000 := by rw [hal, HMK.out]; omega
  have X4 := Lib.hid X.out.k4
  rw [← allI_k, ← hal] at RA
  rw [← hal] at X4
  obtain ⟨AL, hAL⟩ := name_it (allI l)
  rw [hAL.out] at RA PA X4 hal hal2
  have HKN : Hid ((l.map It.k).length = AL.length) := hal.symm
  have HA2 := Lib.hid hal2
  clear hAL hal hal2 hmost hlen HMK
  have SK : Hid (∀ W, Below w1.heap.size w1 W → W.cell? ⟨b4, 0, none⟩ = some (.int .i64 most) ∧ W.cell? ⟨b4, 1, none⟩ = some (.slice q AL.length cap)) := fun W hW => ⟨(X4.out.next hW).at 0 _ rfl, (X4.out.next hW).at 1 _ rfl⟩
  have SP : Hid (∀ W, Below w1.heap.size w1 W → ∀ u v, ((W.setCell ⟨b6, 0, none⟩ u).setCell ⟨b6, 1, none⟩ v).cell? ⟨b4, 0, none⟩ = some (.int .i64 most) ∧ ((W.setCell ⟨b6, 0, none⟩ u).setCell ⟨b6, 1, none⟩ v).cell? ⟨b4, 1, none⟩ = some (.slice q AL.length cap)) := fun W hW u v =>
    ⟨(((X4.out.next hW).other (fun e => NE.out.2.1 e.symm) 0 u).other (fun e => NE.out.2.1 e.symm) 1 v).at 0 _ rfl, (((X4.out.next hW).other (fun e => NE.out.2.1 e.symm) 0 u).other (fun e => NE.out.2.1 e.symm) 1 v).at 1 _ rfl⟩
  have BD := Lib.hid (Below.refl w1.heap.size w1).drew
  have X0 := Lib.hid (X.out.k6.next BD.out)
  have z0 := X0.out.at 0 _ rfl
  have z1 := X0.out.at 1 _ rfl
  have y0 := X0.out.free 0
  have y1 := X0.out.free 1
  conv => arg 2; whnf
  go_region_held3 (fun W => W.cell? ⟨b4, 0, none⟩ = some (.int .i64 most) ∧ W.cell? ⟨b4, 1, none⟩ = some (.slice q AL.length cap))
    (first | with_reducible exact SK.out _ BD.out | with_reducible exact SP.out _ BD.out _ _)
    (first
    | (go_at_call 28; refine (PA.out _ BD.out).mono ?_; rintro e w2 ⟨⟨v4, rfl, h4⟩, b2⟩; obtain ⟨p4, c4, e4⟩ := row_slice h4; subst e4; have K4 := Lib.hid (row_lieS h4); have BD := Lib.hid (BD.out.trans (b2.mono BD.out.size)))
    | (go_at_call 31; refine (RA.out _ BD.out).mono ?_; rintro e w3 ⟨⟨p2, c2, rfl, h2⟩, b3⟩; have K2 := Lib.hid h2; have K5 := Lib.hid (K4.out.next b3); have BD := Lib.hid (BD.out.trans (b3.mono BD.out.size)))
    | (go_at_call 30; refine (sameSets_self _ p4 p2 c4 c2 AL K5.out K2.out (by have := HA2.out; omega)).mono ?_; rintro e w4 ⟨rfl, b4'⟩; have BD := Lib.hid (BD.out.trans (b4'.mono BD.out.size)); have X0 := Lib.hid (X.out.k6.next BD.out); have z0 := X0.out.at 0 _ rfl; have z1 := X0.out.at 1 _ rfl; have y0 := X0.out.free 0; have y1 := X0.out.free 1))
  have F := Sx.out (X.out.next BD.out)
  rw [HKN.out] at F
  clear SK SP z0 z1 y0 y1 PA RA
  go_wp2_with fail
  conv => arg 2; whnf
  go_wp2_with fail
  exact HRT.out _ _ _ _ _ _ _ _ _ _ _ _ _ _ _ _ _ _ _ _ _ _ _ _ _ _ _ _ _ _ _ _ _ _ _ _ _ _ _ _ _ _ _ _ _ _ _ _ _ _ _ _ _ _ _ _ _ _ _ _ _ _ _ _ _ _ _ _ _ _ _ _ _ _ _ _ _ _ _ _ _ _ _ _ _ _ _ _ _ _ _ _ _ _ q cap l n _ F.1 (F.2.at 0 _ rfl) (by rw [HKN.out]; exact F.2.at 1 _ rfl)
end Go.Proofs.YtkenianfpfamcaaGreatDoor
namespace Go.Proofs.YtkenianfpfamcaaGreatDoor
open Go Go.RowKit
set_option maxHeartbeats 16000000

/-- the blocks of a step, the document's jar already behind the call -/
structure Sz (w : World) (b4 b5 b6 b8 : Nat) (jb mb most : Nat) (k0 : List Kp) (q0 q : Option Addr) (cap : Nat) (kl : List Kp) (o : OpC) (wx : World) : Prop where
  k4 : CellsAt wx b4 [.int .i64 most, .slice q kl.length cap]
  k5 : CellsAt wx b5 (cellsO o)
  k6 : CellsAt wx b6 [.int .i64 0, .slice none 0 0]
  d : KpL wx q kl
  cp : kl.length ≤ cap
  K : Keeps (fun i => most ≠ 0 ∧ (i = jb ∨ i = mb)) w wx
  ne : b4 ≠ b5 ∧ b4 ≠ b6 ∧ b4 ≠ b8 ∧ b5 ≠ b6 ∧ b5 ≠ b8 ∧ b6 ≠ b8
  low : w.heap.size ≤ b4 ∧ w.heap.size ≤ b5 ∧ w.heap.size ≤ b6 ∧ w.heap.size ≤ b8
  jl : most ≠ 0 → jb < w.heap.size ∧ mb < w.heap.size
  qn : q = q0 ∧ kl = k0 ∨ ∀ g off, q = some ⟨g, off, none⟩ → w.heap.size ≤ g
  qx : kl ≠ [] → ∀ g off, q = some ⟨g, off, none⟩ → ¬ (most ≠ 0 ∧ (g = jb ∨ g = mb)) ∧ g ≠ b6
theorem Sz.next {w : World} {b4 b5 b6 b8 : Nat} {jb mb most : Nat} {k0 : List Kp} {q0 q : Option Addr} {cap : Nat} {kl : List Kp} {o : OpC} {wx wy : World} (h : Sz w b4 b5 b6 b8 jb mb most k0 q0 q cap kl o wx) (hb : Below wx.heap.size wx wy) : Sz w b4 b5 b6 b8 jb mb most k0 q0 q cap kl o wy :=
  ⟨h.k4.next hb, h.k5.next hb, h.k6.next hb, h.d.next hb, h.cp, h.K.trans (Keeps.of hb (Nat.le_refl _)), h.ne, h.low, h.jl, h.qn, h.qx⟩
theorem Sz.jar {w : World} {b4 b5 b6 b8 : Nat} {jb mb most : Nat} {k0 : List Kp} {q0 q : Option Addr} {cap : Nat} {kl : List Kp} {o : OpC} {wx wy : World} (h : Sz w b4 b5 b6 b8 jb mb most k0 q0 q cap kl o wx) (hk : Keeps (fun i => most ≠ 0 ∧ (i = jb ∨ i = mb)) wx wy) : Sz w b4 b5 b6 b8 jb mb most k0 q0 q cap kl o wy :=
  have far : ∀ b, w.heap.size ≤ b → ¬ (most ≠ 0 ∧ (b = jb ∨ b = mb)) := fun b hb e => by have := h.jl e.1; omega
  ⟨h.k4.keeps hk (far _ h.low.1), h.k5.keeps hk (far _ h.low.2.1), h.k6.keeps hk (far _ h.low.2.2.1), h.d.keepsN hk (fun hx g off e => (h.qx hx g off e).1), h.cp, h.K.trans hk, h.ne, h.low, h.jl, h.qn, h.qx⟩
theorem Sz.out {w : World} {b4 b5 b6 b8 : Nat} {jv : Value} {jb mb most n n' : Nat} {k0 : List Kp} {q0 q : Option Addr} {cap : Nat} {kl : List Kp} {l' : List It} {o : OpC} {wx : World} (h : Sz w b4 b5 b6 b8 jb mb most k0 q0 q cap kl o wx) (hj : Jv wx jv jb mb most n' l') (hl : l'.map It.k = kl) (hn : n' ≤ n + 1) :
    StepOut w jv jb mb most n k0 q0 q cap l' n' (putAll wx b6 0 [.int .i64 most, .slice q kl.length cap]) ∧ CellsAt (putAll wx b6 0 [.int .i64 most, .slice q kl.length cap]) b6 [.int .i64 most, .slice q kl.length cap] := by
  have hk := Keeps.put (S := fun i => i = b6) (b := b6) rfl [.int .i64 most, .slice q kl.length cap] 0 wx
  refine ⟨⟨?_, ?_, by rw [hl]; exact h.cp, (by rw [hl]; exact h.qn), hn, h.K.then hk (fun i hi e => by have := h.low; omega)⟩, h.k6.put _ rfl⟩
  · rcases hj with hj | ⟨h1, h2, h3, h4⟩
    · exact Or.inl hj
    · have hjl := h.jl (by omega)
      have hlw := h.low
      exact Or.inr ⟨h1, h2, h3.keeps hk (fun e => by omega) (fun e => by omega) (fun x hx e => box_ne h.k6 h3 x hx e), h4⟩
  · rw [hl]; exact h.d.keepsN hk (fun hx g off e he => (h.qx hx g off e).2 he)
/-- the document's answer goes into its box -/
theorem Sx.put {w : World} {b4 b5 b6 b8 : Nat} {jv : Value} {jb mb most n : Nat} {q : Option Addr} {cap : Nat} {l : List It} {o : OpC} {w1 w2 : World} {q2 : Option Addr} {c2 : Nat} {kl : List Kp} (h : Sx w b4 b5 b6 b8 jv jb mb most n q cap l o w1) (hb : Below w1.heap.size w1 w2) (hl : KpL w2 q2 kl) (hc : kl.length ≤ c2) (hq : q2 = q ∧ kl = l.map It.k ∨ ∀ g off, q2 = some ⟨g, off, none⟩ → w1.heap.size ≤ g) :
    Sz w b4 b5 b6 b8 jb mb most (l.map It.k) q q2 c2 kl o (putAll w2 b4 0 [.int .i64 most, .slice q2 kl.length c2]) ∧ Jv (putAll w2 b4 0 [.int .i64 most, .slice q2 kl.length c2]) jv jb mb most n l := by
  have hk := Keeps.put (S := fun i => i = b4) (b := b4) rfl [.int .i64 most, .slice q2 kl.length c2] 0 w2
  have h2 := h.next hb
  have l4 := h.k4.lt
  have l5 := h.k5.lt
  have l6 := h.k6.lt
  have hs := h.bl.size
  have hqx : kl ≠ [] → ∀ g off, q2 = some ⟨g, off, none⟩ → ¬ (most ≠ 0 ∧ (g = jb ∨ g = mb)) ∧ g ≠ b6 ∧ g ≠ b4 := by
    intro hx g off e
    have hlw := h.low
    rcases hq with ⟨hq, hkl⟩ | hq
    · rw [hq] at e
      rw [hkl] at hx
      have := h.ql hx g off e
      exact ⟨h.qj hx g off e, by omega, by omega⟩
    · have := hq g off e
      exact ⟨fun e => by have := h.jl e.1; omega, by omega, by omega⟩
  refine ⟨⟨h2.k4.put _ rfl, h2.k5.keeps hk (fun e => h.ne.1 e.symm), h2.k6.keeps hk (fun e => h.ne.2.1 e.symm), hl.keepsN hk (fun hx g off e he => (hqx hx g off e).2.2 he), hc, ?_, h.ne, h.low, h.jl, ?_, fun hx g off e => ⟨(hqx hx g off e).1, (hqx hx g off e).2.1⟩⟩, ?_⟩
  · exact (Keeps.of h2.bl (Nat.le_refl _)).then hk (fun i hi e => by have := h.low; omega)
  · rcases hq with hq | hq
    · exact Or.inl hq
    · exact Or.inr fun g off e => Nat.le_trans hs (hq g off e)
  · rcases h2.j with hj | ⟨h1, h2', h3, h4⟩
    · exact Or.inl hj
    · have hjl := h.jl (by omega)
      have hlw := h.low
      exact Or.inr ⟨h1, h2', h3.keeps hk (fun e => by omega) (fun e => by omega) (fun x hx e => box_ne h2.k4 h3 x hx e), h4⟩
noncomputable def stepFrom10 : Code := ((Tryz.f32.body.bind (fromReg 10)).getD .skip)
set_option maxRecDepth 100000 in
theorem step_t10 {Q : Exit → Act → World → Prop} {K : Act → World → Prop} (hK : ∀ a w, Code.wp Tryz.prog (seqTl stepFrom10) Q a w → K a w) {w w1 : World} {jv : Value} {jb mb most n b4 b5 b6 b8 : Nat} {q : Option Addr} {cap : Nat} {l : List It} {nm v pp d : List UInt8} {ma : Int} {hm : Bool} {ex : Int} {he sc ht : Bool} {sm kd : Int} {host path : List UInt8} {sec : Bool} {now : Int}
    (X : Hid (Sx w b4 b5 b6 b8 jv jb mb most n q cap l (⟨kd, ⟨nm, v, pp, d, ma, hm, ex, he, sc, ht, sm⟩, host, path, sec, now⟩ : OpC) w1)) (hn : n ≤ 549755813888) 
    {c1 c2 c3 c7 c9 c10 c11 c12 c13 c14 c15 c16 c17 c18 c19 c20 c21 c22 c23 c24 c25 c26 c27 c28 c29 c30 c31 c32 c33 c34 c35 c36 c37 c38 c39 c40 c41 c42 c43 c44 c45 c46 c47 c48 c49 c50 c51 c52 c53 c54 c55 c56 c57 c58 c59 c60 c61 c62 c63 c64 c65 c66 c67 c68 c69 c70 c71 c72 c73 c74 c75 c76 c77 c78 c79 c80 c81 c82 c83 c84 c85 c86 c87 c88 c89 c90 c91 c92 c93 c94 c95 : Value}
    (hret : ∀ (d0 d1 d2 d3 d4 d5 d8 d9 d10 d11 d12 d13 d14 d15 d16 d17 d18 d19 d20 d21 d22 d23 d24 d25 d26 d27 d28 d29 d30 d31 d32 d33 d34 d35 d36 d37 d38 d39 d40 d41 d42 d43 d44 d45 d46 d47 d48 d49 d50 d51 d52 d53 d54 d55 d56 d57 d58 d59 d60 d61 d62 d63 d64 d65 d66 d67 d68 d69 d70 d71 d72 d73 d74 d75 d76 d77 d78 d79 d80 d81 d82 d83 d84 d85 d86 d87 d88 d89 d90 d91 d92 d93 d94 d95 : Value) (q9 : Option Addr) (cap9 : Nat) (l9 : List It) (n9 : Nat) (w0 : World), StepOut w jv jb mb most n (l.map It.k) q q9 cap9 l9 n9 w0 → w0.cell? ⟨b6, 0, none⟩ = some (.int .i64 most) → w0.cell? ⟨b6, 1, none⟩ = some (.slice q9 (l9.map It.k).length cap9) → Q .ret ⟨List.toArray (d0 :: d1 :: d2 :: d3 :: d4 :: d5 :: .pointer (some ⟨b6, 0, none⟩) :: .bool true :: d8 :: d9 :: d10 :: d11 :: d12 :: d13 :: d14 :: d15 :: d16 :: d17 :: d18 :: d19 :: d20 :: d21 :: d22 :: d23 :: d24 :: d25 :: d26 :: d27 :: d28 :: d29 :: d30 :: d31 :: d32 :: d33 :: d34 :: d35 :: d36 :: d37 :: d38 :: d39 :: d40 :: d41 :: d42 :: d43 :: d44 :: d45 :: d46 :: d47 :: d48 :: d49 :: d50 :: d51 :: d52 :: d53 :: d54 :: d55 :: d56 :: d57 :: d58 :: d59 :: d60 :: d61 :: d62 :: d63 :: d64 :: d65 :: d66 :: d67 :: d68 :: d69 :: d70 :: d71 :: d72 :: d73 :: d74 :: d75 :: d76 :: d77 :: d78 :: d79 :: d80 :: d81 :: d82 :: d83 :: d84 :: d85 :: d86 :: d87 :: d88 :: d89 :: d90 :: d91 :: d92 :: d93 :: d94 :: d95 :: []), []⟩ w0) :
    Code.wp Tryz.prog (seqHd stepFrom10) (Exit.then K Q) ⟨List.toArray (jv :: c1 :: c2 :: c3 :: .pointer (some ⟨b4, 0, none⟩) :: .pointer (some ⟨b5, 0, none⟩) :: .pointer (some ⟨b6, 0, none⟩) :: c7 :: .pointer (some ⟨b8, 0, none⟩) :: c9 :: c10 :: c11 :: c12 :: c13 :: c14 :: c15 :: c16 :: c17 :: c18 :: c19 :: c20 :: c21 :: c22 :: c23 :: c24 :: c25 :: c26 :: c27 :: c28 :: c29 :: c30 :: c31 :: c32 :: c33 :: c34 :: c35 :: c36 :: c37 :: c38 :: c39 :: c40 :: c41 :: c42 :: c43 :: c44 :: c45 :: c46 :: c47 :: c48 :: c49 :: c50 :: c51 :: c52 :: c53 :: c54 :: c55 :: c56 :: c57 :: c58 :: c59 :: c60 :: c61 :: c62 :: c63 :: c64 :: c65 :: c66 :: c67 :: c68 :: c69 :: c70 :: c71 :: c72 :: c73 :: c74 :: c75 :: c76 :: c77 :: c78 :: c79 :: c80 :: c81 :: c82 :: c83 :: c84 :: c85 :: c86 :: c87 :: c88 :: c89 :: c90 :: c91 :: c92 :: c93 :: c94 :: c95 :: []), []⟩ w1 := by
  have HRT := Lib.hid hret
  clear hret
  have hmost := X.out.j.most
  have hlen := X.out.j.len
  have HMK : Hid ((l.map It.k).length = l.length) := List.length_map ..
  have NE := Lib.hid X.out.ne
  have RW := Lib.hid (rsweep_any most q cap (l.map It.k) now w1 X.out.d (by rw [HMK.out]; omega))
  have PW := Lib.hid (fun W (hW : Jv W jv jb mb most n l) => jv_sweep W jv jb mb most n l now hW (by omega))
  rw [HMK.out] at RW
  have X4 := Lib.hid X.out.k4
  rw [HMK.out] at X4
  obtain ⟨sl, hsl⟩ := name_it (sweepC (l.map It.k) now)
  rw [hsl.out] at RW PW
  clear hsl hmost hlen
  have i0 := X4.out.at 0 _ rfl
  have i1 := X4.out.at 1 _ rfl
  have o15 : w1.cell? ⟨b5, 15, none⟩ = some (.int .i64 now) := X.out.k5.at 15 _ rfl
  conv => arg 2; whnf
  go_wp2_with fail
  refine RW.out.mono ?_; rintro e w2 ⟨⟨q2, c2, rfl, hc2, hl2, hq2⟩, hb2⟩
  have ZJ := X.out.put hb2 hl2 hc2 (Or.inr hq2)
  have Z3 := Lib.hid ZJ.1
  have J3 := Lib.hid ZJ.2
  have B4 := Lib.hid (X4.out.next hb2)
  clear i0 i1 o15
  have i0 := B4.out.at 0 _ rfl
  have i1 := B4.out.at 1 _ rfl
  have y0 := B4.out.free 0
  have y1 := B4.out.free 1
  unfold putAll putAll putAll at Z3 J3
  simp only [Nat.zero_add] at Z3 J3
  clear ZJ hb2 hl2 hc2 hq2 RW X4 B4
  go_wp2_with fail
  conv => arg 2; whnf
  go_upto_region 11 with fail
  generalize World.setCell _ ⟨b4, 1, none⟩ _ = w3 at Z3 J3 ⊢
  clear i0 i1 y0 y1
  have SK : Hid (∀ W, Sz w b4 b5 b6 b8 jb mb most (l.map It.k) q q2 c2 sl (⟨kd, ⟨nm, v, pp, d, ma, hm, ex, he, sc, ht, sm⟩, host, path, sec, now⟩ : OpC) W → W.cell? ⟨b4, 0, none⟩ = some (.int .i64 most) ∧ W.cell? ⟨b4, 1, none⟩ = some (.slice q2 sl.length c2) ∧ W.cell? ⟨b5, 15, none⟩ = some (.int .i64 now)) := fun W h => ⟨h.k4.at 0 _ rfl, h.k4.at 1 _ rfl, h.k5.at 15 _ rfl⟩
  have SP : Hid (∀ W, Sz w b4 b5 b6 b8 jb mb most (l.map It.k) q q2 c2 sl (⟨kd, ⟨nm, v, pp, d, ma, hm, ex, he, sc, ht, sm⟩, host, path, sec, now⟩ : OpC) W → ∀ u9 v9, ((W.setCell ⟨b6, 0, none⟩ u9).setCell ⟨b6, 1, none⟩ v9).cell? ⟨b4, 0, none⟩ = some (.int .i64 most) ∧ ((W.setCell ⟨b6, 0, none⟩ u9).setCell ⟨b6, 1, none⟩ v9).cell? ⟨b4, 1, none⟩ = some (.slice q2 sl.length c2) ∧ ((W.setCell ⟨b6, 0, none⟩ u9).setCell ⟨b6, 1, none⟩ v9).cell? ⟨b5, 15, none⟩ = some (.int .i64 now)) := fun W h u9 v9 =>
    ⟨((h.k4.other (fun e => NE.out.2.1 e.symm) 0 u9).other (fun e => NE.out.2.1 e.symm) 1 v9).at 0 _ rfl, ((h.k4.other (fun e => NE.out.2.1 e.symm) 0 u9).other (fun e => NE.out.2.1 e.symm) 1 v9).at 1 _ rfl, ((h.k5.other (fun e => NE.out.2.2.2.1 e.symm) 0 u9).other (fun e => NE.out.2.2.2.1 e.symm) 1 v9).at 15 _ rfl⟩
  have bd := (Below.refl w3.heap.size w3).drew
  have ZD := Lib.hid (Z3.out.next bd)
  have JD := Lib.hid (J3.out.next bd)
  have z0 := ZD.out.k6.at 0 _ rfl
  have z1 := ZD.out.k6.at 1 _ rfl
  have y0 := ZD.out.k6.free 0
  have y1 := ZD.out.k6.free 1
  clear Z3 J3 bd
  go_region_held3 (fun W => W.cell? ⟨b4, 0, none⟩ = some (.int .i64 most) ∧ W.cell? ⟨b4, 1, none⟩ = some (.slice q2 sl.length c2) ∧ W.cell? ⟨b5, 15, none⟩ = some (.int .i64 now))
    (first | with_reducible exact SP.out _ Z4.out _ _ | with_reducible exact SK.out _ Z4.out | with_reducible exact SK.out _ ZD.out)
    ((go_at_call 69; refine (PW.out _ JD.out).mono ?_; rintro e w4 ⟨rfl, hk4, l4, hj4, hl4⟩; have Z4 := Lib.hid (ZD.out.jar hk4); have z0 := Z4.out.k6.at 0 _ rfl; have z1 := Z4.out.k6.at 1 _ rfl; have y0 := Z4.out.k6.free 0; have y1 := Z4.out.k6.free 1))
  have F := Z4.out.out hj4 hl4 (Nat.le_succ n)
  clear SK SP PW z0 z1 y0 y1
  go_wp2_with fail
  exact HRT.out _ _ _ _ _ _ _ _ _ _ _ _ _ _ _ _ _ _ _ _ _ _ _ _ _ _ _ _ _ _ _ _ _ _ _ _ _ _ _ _ _ _ _ _ _ _ _ _ _ _ _ _ _ _ _ _ _ _ _ _ _ _ _ _ _ _ _ _ _ _ _ _ _ _ _ _ _ _ _ _ _ _ _ _ _ _ _ _ _ _ _ _ _ _ q2 c2 l4 n _ F.1 (F.2.at 0 _ rfl) (by rw [hl4]; exact F.2.at 1 _ rfl)
end Go.Proofs.YtkenianfpfamcaaGreatDoor
