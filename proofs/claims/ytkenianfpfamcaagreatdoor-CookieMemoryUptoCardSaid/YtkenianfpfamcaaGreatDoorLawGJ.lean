/- CookieMemory: the walk of the law. -/
import Derived.Test.YtkenianfpfamcaaGreatDoorLawGdJ
import Derived.Test.YtkenianfpfamcaaGreatDoorDe
import Derived.Test.YtkenianfpfamcaaGreatDoorMo
namespace Go.Proofs.YtkenianfpfamcaaGreatDoor
open Go Go.RowKit
set_option maxHeartbeats 16000000

set_option maxRecDepth 100000 in
theorem lawMemory_any (p : Option Addr) (cap : Nat) (ops : List OpC) (w : World) (hE : EnvK w) (hO : OpL w p ops) (hf : ∀ o ∈ ops, FitO o) (hl : ops.length ≤ 65536) :
    Calls Tryz.prog 7 #[.slice p ops.length cap] w fun e w' => e = .returned (.bool true) ∧ Below w.heap.size w w' := by
  have HA := Lib.hid (awake_any w hE)
  have HO := Lib.hid hO
  have HF := Lib.hid hf
  have HE := Lib.hid hE
  clear hO hf hE
  go_enter Tryz.func7, Tryz.ntmps7
  go_wp2_with fail
  refine HA.out.mono ?_; rintro e w1 ⟨rfl, hb1⟩
  have B1 := Lib.hid hb1
  clear hb1 HA
  go_wp2_with fail
  refine (begun_any w1).mono ?_; rintro e w2 ⟨⟨jb, mb, rfl, hJ, hj1, hj2⟩, hb2⟩
  have B2 := Lib.hid (B1.out.trans (hb2.mono B1.out.size))
  have hs1 := B1.out.size
  have b3 := below_put2 (w := w2) (cs := #[.int .i64 9, .slice none 0 0]) (T := tRJ)
  have M3 : Hid (Mm w w2.heap.size jb mb 9 0 none 0 [] (w2.alloc (.cells #[.int .i64 9, .slice none 0 0] tRJ))) := {
    box := CellsAt.first w2 [.int .i64 9, .slice none 0 0] tRJ
    j := hJ.next_ b3
    d := ⟨Or.inl rfl⟩
    cap := Nat.le_refl _
    len := Nat.zero_le _
    bl := B2.out.trans (b3.mono B2.out.size)
    low := ⟨B2.out.size, by omega, by omega, by have := hJ.jar.lt; omega, by obtain ⟨D, h, _⟩ := hJ.map; have := h.lt; omega⟩
    qj := fun g off h => by cases h }
  clear hJ hj1 hj2 hb2 B1 B2 b3 hs1
  go_upto_region 4 with fail
  obtain ⟨b, hb⟩ := name_it w2.heap.size
  rw [hb.out] at M3 ⊢
  clear hb
  generalize w2.alloc _ = w3 at M3 ⊢
  go_wp2_with fail
  go_loopw [30] (fun i wr => ∃ (k n : Nat) (q : Option Addr) (cq : Nat) (l : List It), k ≤ ops.length ∧ i = .int .i64 k ∧ n ≤ k ∧ Hid (Mm w b jb mb 9 n q cq l wr)) (fun i _ => ops.length - (intOf i).toNat)
  case atStart => exact ⟨0, 0, none, 0, [], Nat.zero_le _, rfl, Nat.le_refl _, M3⟩
  clear M3
  case round =>
  obtain ⟨k, n, q, cq, l, hk, rfl, hnk, M⟩ := hrel
  obtain ⟨wq, hwq⟩ : ∃ wq, wq = wr := ⟨wr, rfl⟩
  subst hwq
  by_cases hlt : k < ops.length
  rotate_left
  · obtain rfl : k = ops.length := by omega
    have D9 := Lib.hid M.out.bl
    clear M HO HF HE
    go_wp2_with fail
    all_goals (try (exfalso; omega))
    go_ret
    exact ⟨rfl, D9.out⟩
  · obtain ⟨g, og, rfl, hg, hc⟩ := (HO.out.keeps (S := fun i => w.heap.size ≤ i) ⟨M.out.bl.os, M.out.bl.tape, M.out.bl.output, M.out.bl.size, fun i hi hn => M.out.bl.block i (by omega)⟩ (fun g off h => by
      rcases HO.out.mem with h0 | ⟨g', off', h1, h2, _⟩
      · rw [h0] at hlt; cases hlt
      · rw [h1] at h; injection h with h; injection h with h _; omega)).get k hlt
    have FO := HF.out ops[k] (List.getElem_mem hlt)
    obtain ⟨o, ho⟩ := name_it ops[k]
    rw [ho.out] at hc FO
    clear ho
    obtain ⟨kd, ⟨nm, v, pp, d, ma, hm, ex, he, sc, ht, sm⟩, host, path, sec, now⟩ := o
    have z0 : wq.cell? ⟨g, og + k * 16, none⟩ = some (.int .i64 kd) := hc 0 _ (by decide) rfl
    have z1 : wq.cell? ⟨g, og + k * 16 + 1, none⟩ = some (.string (bs nm)) := hc 1 _ (by decide) rfl
    have z2 : wq.cell? ⟨g, og + k * 16 + 2, none⟩ = some (.string (bs v)) := hc 2 _ (by decide) rfl
    have z3 : wq.cell? ⟨g, og + k * 16 + 3, none⟩ = some (.string (bs pp)) := hc 3 _ (by decide) rfl
    have z4 : wq.cell? ⟨g, og + k * 16 + 4, none⟩ = some (.string (bs d)) := hc 4 _ (by decide) rfl
    have z5 : wq.cell? ⟨g, og + k * 16 + 5, none⟩ = some (.int .i64 ma) := hc 5 _ (by decide) rfl
    have z6 : wq.cell? ⟨g, og + k * 16 + 6, none⟩ = some (.bool hm) := hc 6 _ (by decide) rfl
    have z7 : wq.cell? ⟨g, og + k * 16 + 7, none⟩ = some (.int .i64 ex) := hc 7 _ (by decide) rfl
    have z8 : wq.cell? ⟨g, og + k * 16 + 8, none⟩ = some (.bool he) := hc 8 _ (by decide) rfl
    have z9 : wq.cell? ⟨g, og + k * 16 + 9, none⟩ = some (.bool sc) := hc 9 _ (by decide) rfl
    have z10 : wq.cell? ⟨g, og + k * 16 + 10, none⟩ = some (.bool ht) := hc 10 _ (by decide) rfl
    have z11 : wq.cell? ⟨g, og + k * 16 + 11, none⟩ = some (.int .i64 sm) := hc 11 _ (by decide) rfl
    have z12 : wq.cell? ⟨g, og + k * 16 + 12, none⟩ = some (.string (bs host)) := hc 12 _ (by decide) rfl
    have z13 : wq.cell? ⟨g, og + k * 16 + 13, none⟩ = some (.string (bs path)) := hc 13 _ (by decide) rfl
    have z14 : wq.cell? ⟨g, og + k * 16 + 14, none⟩ = some (.bool sec) := hc 14 _ (by decide) rfl
    have z15 : wq.cell? ⟨g, og + k * 16 + 15, none⟩ = some (.int .i64 now) := hc 15 _ (by decide) rfl
    clear hc
    have FC := Lib.hid FO.c
    have FH := Lib.hid FO.host
    have FP := Lib.hid FO.path
    simp only at FH FP
    clear FO
    have hn9 : n ≤ 65536 := by omega
    have K1 := Lib.hid (CellsAt.first wq (cellsO (⟨kd, ⟨nm, v, pp, d, ma, hm, ex, he, sc, ht, sm⟩, host, path, sec, now⟩ : OpC)) 61)
    have b1 := below_put2 (w := wq) (cs := (cellsO (⟨kd, ⟨nm, v, pp, d, ma, hm, ex, he, sc, ht, sm⟩, host, path, sec, now⟩ : OpC)).toArray) (T := 61)
    have M1 := Lib.hid (M.out.next b1)
    have K1 : Hid (CellsAt (wq.alloc (.cells #[.int .i64 kd, .string (bs nm), .string (bs v), .string (bs pp), .string (bs d), .int .i64 ma, .bool hm, .int .i64 ex, .bool he, .bool sc, .bool ht, .int .i64 sm, .string (bs host), .string (bs path), .bool sec, .int .i64 now] 61)) wq.heap.size (cellsO (⟨kd, ⟨nm, v, pp, d, ma, hm, ex, he, sc, ht, sm⟩, host, path, sec, now⟩ : OpC))) := K1
    have M1 : Hid (Mm w b jb mb 9 n q cq l (wq.alloc (.cells #[.int .i64 kd, .string (bs nm), .string (bs v), .string (bs pp), .string (bs d), .int .i64 ma, .bool hm, .int .i64 ex, .bool he, .bool sc, .bool ht, .int .i64 sm, .string (bs host), .string (bs path), .bool sec, .int .i64 now] 61))) := M1
    have GO : Hid (b < wq.heap.size ∧ jb < wq.heap.size ∧ mb < wq.heap.size) := ⟨M.out.box.lt, M.out.j.jar.lt, by obtain ⟨D, h, _⟩ := M.out.j.map; exact h.lt⟩
    clear M b1
    go_upto_region 9 with fail
    all_goals (try (exfalso; omega))
    clear z0 z1 z2 z3 z4 z5 z6 z7 z8 z9 z10 z11 z12 z13 z14 z15
    obtain ⟨ob, hob⟩ := name_it wq.heap.size
    rw [hob.out] at K1 GO ⊢
    clear hob
    generalize wq.alloc _ = w1 at K1 M1 ⊢
    have HNE : b ≠ ob ∧ jb ≠ ob ∧ mb ≠ ob := by have := GO.out; exact ⟨by omega, by omega, by omega⟩
    go_upto_region 9 with fail
    refine mem_t9 ?hK M1 K1 HE.out FC.out FH.out FP.out (by omega) (by decide) HNE ?_
    case hK => assumption
    intro e2 e8 e9 e10 e11 e12 e13 e14 e34 e35 e36 e37 e38 e39 e40 e41 e42 e43 e44 e45 e46 e47 e48 e49 e50 e51 e52 e53 e54 e55 e56 e57 e58 e59 e60 e61 e62 e63 e64 e65 e66 e67 e68 e69 e70 e71 e72 e73 e74 e75 e76 e77 e78 e79 e80 e81 e82 e83 e84 e85 e86 e87 e88 e89 e90 e91 e92 e93 e94 e95 e96 e97 e98 e99 e100 e101 e102 e103 e104 e105 e106 e107 e108 e109 e110 e111 e112 e113 e114 e115 e116 e117 e118 e119 e120 e121 e122 e123 e124 e125 e126 e127 e128 e129 e130 e131 e132 e133 e134 e135 e136 e137 e138 e139 e140 e141 e142 e143 e144 e145 e146 e147 e148 e149 e150 e151 e152 e153 e154 e155 e156 w0 n0 q0 c0 l0 hn0 hM0
    have M0 := Lib.hid hM0
    clear hM0 M1 K1
    go_wp2_with fail
    go_roundw
    case rel => exact ⟨k + 1, n0, q0, c0, l0, by omega, by go_num, by omega, M0⟩
    case measure => simp [intOf]; omega
end Go.Proofs.YtkenianfpfamcaaGreatDoor
