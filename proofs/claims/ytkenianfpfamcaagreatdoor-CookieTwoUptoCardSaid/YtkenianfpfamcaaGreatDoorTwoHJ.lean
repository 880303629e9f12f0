/- The law's step, whole. -/
import Derived.Test.YtkenianfpfamcaaGreatDoorTwoGJ
namespace Go.Proofs.YtkenianfpfamcaaGreatDoor
open Go Go.RowKit
set_option maxHeartbeats 16000000

theorem three3 {w : World} (l1 l2 l3 : List Value) (t1 t2 t3 : TypeId) :
    CellsAt (((w.alloc (.cells l1.toArray t1)).alloc (.cells l2.toArray t2)).alloc (.cells l3.toArray t3)) w.heap.size l1 ∧
    CellsAt (((w.alloc (.cells l1.toArray t1)).alloc (.cells l2.toArray t2)).alloc (.cells l3.toArray t3)) (w.heap.size + 1) l2 ∧
    CellsAt (((w.alloc (.cells l1.toArray t1)).alloc (.cells l2.toArray t2)).alloc (.cells l3.toArray t3)) (w.heap.size + 2) l3 ∧
    Below w.heap.size w (((w.alloc (.cells l1.toArray t1)).alloc (.cells l2.toArray t2)).alloc (.cells l3.toArray t3)) := by
  have s1 : (w.alloc (.cells l1.toArray t1)).heap.size = w.heap.size + 1 := by show (w.heap.push _).size = _; rw [Array.size_push]
  have k1 := CellsAt.first w l1 t1
  have b1 := below_put2 (w := w) (cs := l1.toArray) (T := t1)
  generalize w.alloc (.cells l1.toArray t1) = w1 at s1 k1 b1 ⊢
  have s2 : (w1.alloc (.cells l2.toArray t2)).heap.size = w1.heap.size + 1 := by show (w1.heap.push _).size = _; rw [Array.size_push]
  have k2 := CellsAt.first w1 l2 t2
  have b2 := below_put2 (w := w1) (cs := l2.toArray) (T := t2)
  have k12 := k1.next b2
  generalize w1.alloc (.cells l2.toArray t2) = w2 at s2 k2 b2 k12 ⊢
  have k3 := CellsAt.first w2 l3 t3
  have b3 := below_put2 (w := w2) (cs := l3.toArray) (T := t3)
  have k13 := k12.next b3
  have k23 := k2.next b3
  rw [s1] at k23
  have e2 : w2.heap.size = w.heap.size + 2 := by omega
  rw [e2] at k3
  exact ⟨k13, k23, k3, (b1.trans (b2.mono (by omega))).trans (b3.mono (by omega))⟩
set_option maxRecDepth 100000 in
theorem step_any (w : World) (jv : Value) (jb mb most n : Nat) (q : Option Addr) (cap : Nat) (l : List It) (o : OpC) (hJ : Jv w jv jb mb most n l) (hd : KpL w q (l.map It.k)) (hc : (l.map It.k).length ≤ cap) (hE : EnvK w) (hf : FitO o) (hn : n ≤ 549755813888) (hV : most ≠ 0 → 9 ≤ jb ∧ 9 ≤ mb) (hqj : l.map It.k ≠ [] → ∀ g off, q = some ⟨g, off, none⟩ → ¬ (most ≠ 0 ∧ (g = jb ∨ g = mb))) :
    Calls Tryz.prog 32 #[jv, .agg #[.int .i64 most, .slice q (l.map It.k).length cap], .agg (cellsO o).toArray] w fun e w' => ∃ q' cap' l' n', e = .returned (.tuple #[.agg #[.int .i64 most, .slice q' (l'.map It.k).length cap'], .bool true]) ∧ StepOut w jv jb mb most n (l.map It.k) q q' cap' l' n' w' := by
  have A := Lib.hid (three3 (w := w) [.int .i64 most, .slice q (l.map It.k).length cap] (cellsO o) [.int .i64 0, .slice none 0 0] tRJ 61 tRJ)
  have HJ := Lib.hid hJ
  have HD := Lib.hid hd
  have HC := Lib.hid hc
  have HE := Lib.hid hE
  have HF := Lib.hid hf.c
  have HH := Lib.hid hf.host
  have HP := Lib.hid hf.path
  have HN := Lib.hid hn
  have HV := Lib.hid hV
  have HQ := Lib.hid hqj
  have HKD := Lib.hid (fun wx => kind_any o.kind wx)
  have JL : Hid (most ≠ 0 → jb < w.heap.size ∧ mb < w.heap.size) := fun h0 => by
    rcases hJ with hj | ⟨_, _, h3, _⟩
    · exact absurd hj.1 h0
    · exact ⟨h3.jar.lt, by obtain ⟨D, h, _⟩ := h3.map; exact h.lt⟩
  have QL : Hid (l.map It.k ≠ [] → ∀ g off, q = some ⟨g, off, none⟩ → g < w.heap.size) := fun h0 g off e => by
    rcases hd.mem with h | ⟨g', off', h1, h2, _⟩
    · exact absurd h h0
    · rw [h1] at e; injection e with e; injection e with e _; omega
  clear hJ hd hc hE hf hn hV hqj
  obtain ⟨nl, hnl⟩ := name_it (l.map It.k).length
  have HNL : Hid ((l.map It.k).length = nl) := hnl
  rw [hnl.out] at A ⊢
  clear hnl
  obtain ⟨kd, ⟨nm, v, pp, d, ma, hm, ex, he, sc, ht, sm⟩, host, path, sec, now⟩ := o
  unfold cellsO cellsS at A ⊢
  simp only [List.cons_append, List.nil_append] at A HKD HF HH HP ⊢
  go_enter Tryz.func32, Tryz.ntmps32
  go_upto_region 1 with fail
  obtain ⟨b, hb⟩ := name_it w.heap.size
  have HB : Hid (w.heap.size = b) := hb
  rw [hb.out] at A ⊢
  clear hb
  generalize World.alloc _ _ = w1 at A ⊢
  have a0 : w1.cell? ⟨b + 1, 0, none⟩ = some (.int .i64 kd) := A.out.2.1.at 0 _ rfl
  have a12 : w1.cell? ⟨b + 1, 12, none⟩ = some (.string (bs host)) := A.out.2.1.at 12 _ rfl
  have a13 : w1.cell? ⟨b + 1, 13, none⟩ = some (.string (bs path)) := A.out.2.1.at 13 _ rfl
  have a14 : w1.cell? ⟨b + 1, 14, none⟩ = some (.bool sec) := A.out.2.1.at 14 _ rfl
  have a15 : w1.cell? ⟨b + 1, 15, none⟩ = some (.int .i64 now) := A.out.2.1.at 15 _ rfl
  have K9 := Lib.hid (CellsAt.first w1 [.string (bs host), .string (bs path), .bool sec, .int .i64 now] tLn)
  have B9 := Lib.hid (below_put2 (w := w1) (cs := #[.string (bs host), .string (bs path), .bool sec, .int .i64 now]) (T := tLn))
  have LB : Hid (b + 3 ≤ w1.heap.size) := by have := A.out.2.2.1.lt; unfold Hid; omega
  go_upto_region 2 with fail
  clear a12 a13 a14 a15
  obtain ⟨b8, hb8⟩ := name_it w1.heap.size
  have X0 : Hid (Sx w b (b + 1) (b + 1 + 1) b8 jv jb mb most n q cap l (⟨kd, ⟨nm, v, pp, d, ma, hm, ex, he, sc, ht, sm⟩, host, path, sec, now⟩ : OpC) (w1.alloc (.cells #[.string (bs host), .string (bs path), .bool sec, .int .i64 now] tLn))) := {
    k4 := by rw [HNL.out]; exact A.out.1.next B9.out
    k5 := A.out.2.1.next B9.out
    k6 := A.out.2.2.1.next B9.out
    k8 := by rw [← hb8.out]; exact K9.out
    j := HJ.out.next (((HB.out ▸ A.out.2.2.2 : Below w.heap.size w w1)).trans (B9.out.mono (by have := LB.out; have := HB.out; omega)))
    d := HD.out.next (((HB.out ▸ A.out.2.2.2 : Below w.heap.size w w1)).trans (B9.out.mono (by have := LB.out; have := HB.out; omega)))
    cp := HC.out
    bl := ((HB.out ▸ A.out.2.2.2 : Below w.heap.size w w1)).trans (B9.out.mono (by have := LB.out; have := HB.out; omega))
    ne := by have := LB.out; have := hb8.out; exact ⟨by omega, by omega, by omega, by omega, by omega, by omega⟩
    low := by have := LB.out; have := hb8.out; have := HB.out; exact ⟨by omega, by omega, by omega, by omega⟩
    jl := JL.out
    ql := QL.out
    qj := HQ.out }
  rw [hb8.out]
  clear A K9 B9 LB HJ HD HC JL QL HQ hb8 HNL HB a0
  generalize w1.alloc _ = w2 at X0 ⊢
  have a0 : w2.cell? ⟨b + 1, 0, none⟩ = some (.int .i64 kd) := X0.out.k5.at 0 _ rfl
  go_wp2_with fail
  refine (HKD.out _).mono ?_; rintro e w' ⟨⟨r, hr, rfl⟩, rfl⟩
  clear HKD a0
  have hr5 : r = 0 ∨ r = 1 ∨ r = 2 ∨ r = 3 ∨ r = 4 := by omega
  clear hr
  rcases hr5 with rfl | rfl | rfl | rfl | rfl
  · go_upto_region 5 with fail
    refine step_t5 ?hK X0 HH.out HP.out HN.out HE.out HF.out HV.out ?_
    case hK => assumption
    intro d0 d1 d2 d3 d4 d5 d8 d9 d10 d11 d12 d13 d14 d15 d16 d17 d18 d19 d20 d21 d22 d23 d24 d25 d26 d27 d28 d29 d30 d31 d32 d33 d34 d35 d36 d37 d38 d39 d40 d41 d42 d43 d44 d45 d46 d47 d48 d49 d50 d51 d52 d53 d54 d55 d56 d57 d58 d59 d60 d61 d62 d63 d64 d65 d66 d67 d68 d69 d70 d71 d72 d73 d74 d75 d76 d77 d78 d79 d80 d81 d82 d83 d84 d85 d86 d87 d88 d89 d90 d91 d92 d93 d94 d95 q9 cap9 l9 n9 w0 hS f0 f1
    (try dsimp only [Exit.inBlock, Exit.then])
    have g0 : w0.cell? ⟨b + 2, 0, none⟩ = some _ := f0
    have g1 : w0.cell? ⟨b + 2, 1, none⟩ = some _ := f1
    refine bodyPost_ret (v := .tuple #[.agg #[.int .i64 most, .slice q9 (l9.map It.k).length cap9], .bool true]) (by simp [results, Tryz.results32, go_sem, g0, g1]) rfl ?_
    exact ⟨q9, cap9, l9, n9, rfl, hS⟩
  · go_upto_region 8 with fail
    refine step_t8 ?hK X0 HH.out HP.out HN.out ?_
    case hK => assumption
    intro d0 d1 d2 d3 d4 d5 d8 d9 d10 d11 d12 d13 d14 d15 d16 d17 d18 d19 d20 d21 d22 d23 d24 d25 d26 d27 d28 d29 d30 d31 d32 d33 d34 d35 d36 d37 d38 d39 d40 d41 d42 d43 d44 d45 d46 d47 d48 d49 d50 d51 d52 d53 d54 d55 d56 d57 d58 d59 d60 d61 d62 d63 d64 d65 d66 d67 d68 d69 d70 d71 d72 d73 d74 d75 d76 d77 d78 d79 d80 d81 d82 d83 d84 d85 d86 d87 d88 d89 d90 d91 d92 d93 d94 d95 q9 cap9 l9 n9 w0 hS f0 f1
    (try dsimp only [Exit.inBlock, Exit.then])
    have g0 : w0.cell? ⟨b + 2, 0, none⟩ = some _ := f0
    have g1 : w0.cell? ⟨b + 2, 1, none⟩ = some _ := f1
    refine bodyPost_ret (v := .tuple #[.agg #[.int .i64 most, .slice q9 (l9.map It.k).length cap9], .bool true]) (by simp [results, Tryz.results32, go_sem, g0, g1]) rfl ?_
    exact ⟨q9, cap9, l9, n9, rfl, hS⟩
  · go_upto_region 10 with fail
    refine step_t10 ?hK X0 HN.out ?_
    case hK => assumption
    intro d0 d1 d2 d3 d4 d5 d8 d9 d10 d11 d12 d13 d14 d15 d16 d17 d18 d19 d20 d21 d22 d23 d24 d25 d26 d27 d28 d29 d30 d31 d32 d33 d34 d35 d36 d37 d38 d39 d40 d41 d42 d43 d44 d45 d46 d47 d48 d49 d50 d51 d52 d53 d54 d55 d56 d57 d58 d59 d60 d61 d62 d63 d64 d65 d66 d67 d68 d69 d70 d71 d72 d73 d74 d75 d76 d77 d78 d79 d80 d81 d82 d83 d84 d85 d86 d87 d88 d89 d90 d91 d92 d93 d94 d95 q9 cap9 l9 n9 w0 hS f0 f1
    (try dsimp only [Exit.inBlock, Exit.then])
    have g0 : w0.cell? ⟨b + 2, 0, none⟩ = some _ := f0
    have g1 : w0.cell? ⟨b + 2, 1, none⟩ = some _ := f1
    refine bodyPost_ret (v := .tuple #[.agg #[.int .i64 most, .slice q9 (l9.map It.k).length cap9], .bool true]) (by simp [results, Tryz.results32, go_sem, g0, g1]) rfl ?_
    exact ⟨q9, cap9, l9, n9, rfl, hS⟩
  · go_upto_region 13 with fail
    refine step_t13 ?hK X0 HN.out ?_
    case hK => assumption
    intro d0 d1 d2 d3 d4 d5 d8 d9 d10 d11 d12 d13 d14 d15 d16 d17 d18 d19 d20 d21 d22 d23 d24 d25 d26 d27 d28 d29 d30 d31 d32 d33 d34 d35 d36 d37 d38 d39 d40 d41 d42 d43 d44 d45 d46 d47 d48 d49 d50 d51 d52 d53 d54 d55 d56 d57 d58 d59 d60 d61 d62 d63 d64 d65 d66 d67 d68 d69 d70 d71 d72 d73 d74 d75 d76 d77 d78 d79 d80 d81 d82 d83 d84 d85 d86 d87 d88 d89 d90 d91 d92 d93 d94 d95 q9 cap9 l9 n9 w0 hS f0 f1
    (try dsimp only [Exit.inBlock, Exit.then])
    have g0 : w0.cell? ⟨b + 2, 0, none⟩ = some _ := f0
    have g1 : w0.cell? ⟨b + 2, 1, none⟩ = some _ := f1
    refine bodyPost_ret (v := .tuple #[.agg #[.int .i64 most, .slice q9 (l9.map It.k).length cap9], .bool true]) (by simp [results, Tryz.results32, go_sem, g0, g1]) rfl ?_
    exact ⟨q9, cap9, l9, n9, rfl, hS⟩
  · go_upto_region 14 with fail
    refine step_t14 ?hK X0 HN.out ?_
    case hK => assumption
    intro d0 d1 d2 d3 d4 d5 d8 d9 d10 d11 d12 d13 d14 d15 d16 d17 d18 d19 d20 d21 d22 d23 d24 d25 d26 d27 d28 d29 d30 d31 d32 d33 d34 d35 d36 d37 d38 d39 d40 d41 d42 d43 d44 d45 d46 d47 d48 d49 d50 d51 d52 d53 d54 d55 d56 d57 d58 d59 d60 d61 d62 d63 d64 d65 d66 d67 d68 d69 d70 d71 d72 d73 d74 d75 d76 d77 d78 d79 d80 d81 d82 d83 d84 d85 d86 d87 d88 d89 d90 d91 d92 d93 d94 d95 q9 cap9 l9 n9 w0 hS f0 f1
    (try dsimp only [Exit.inBlock, Exit.then])
    have g0 : w0.cell? ⟨b + 2, 0, none⟩ = some _ := f0
    have g1 : w0.cell? ⟨b + 2, 1, none⟩ = some _ := f1
    refine bodyPost_ret (v := .tuple #[.agg #[.int .i64 most, .slice q9 (l9.map It.k).length cap9], .bool true]) (by simp [results, Tryz.results32, go_sem, g0, g1]) rfl ?_
    exact ⟨q9, cap9, l9, n9, rfl, hS⟩
end Go.Proofs.YtkenianfpfamcaaGreatDoor
