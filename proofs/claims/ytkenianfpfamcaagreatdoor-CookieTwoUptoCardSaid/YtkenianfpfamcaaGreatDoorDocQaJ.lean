/- The document's Get: what is sent, out of what was found. -/
import Derived.Test.YtkenianfpfamcaaGreatDoorDc
import Derived.Test.YtkenianfpfamcaaGreatDoorDd
import Derived.Test.YtkenianfpfamcaaGreatDoorDe
namespace Go.Proofs.YtkenianfpfamcaaGreatDoor
open Go Go.RowKit
set_option maxHeartbeats 64000000

def pairsK (l : List Kp) : List Ck := l.map fun k => (k.c.name, k.c.value)
noncomputable def getFrom14 : Code := ((Tryz.f29.body.bind (fromReg 14)).getD .skip)
set_option maxRecDepth 100000 in
theorem rget_t14 {Q : Exit → Act → World → Prop} {K : Act → World → Prop} (hK : ∀ a w, Code.wp Tryz.prog (seqTl getFrom14) Q a w → K a w) {so : Option Addr} {co : Nat} {srt : List Kp} {RES : List Ck} {wq : World} (LL : Hid (Lies cellsP 15 wq so srt)) (HSL : Hid (srt.length ≤ 3000)) (HFA : Hid (pairsK srt = RES))
    {c0 c1 c2 c3 c4 c6 c7 c8 c9 c10 c11 c12 c13 c14 c15 c16 c17 c18 c19 c20 c21 c22 c23 c24 c25 c26 c27 c28 c29 c30 c31 c32 c33 c34 c35 c36 c37 c38 c39 c40 c41 c42 c43 c44 c45 c46 c47 c48 c49 c50 c51 c52 c53 c54 c55 c56 c57 c58 c59 c60 c61 c62 c63 c64 c65 c66 c67 c68 c69 c70 c71 c72 c73 c74 c75 c76 c77 c78 c79 c80 c81 c82 c83 c84 c85 c86 c87 c88 c89 c90 c91 c92 c93 c94 c95 c96 c97 c98 c99 c100 c101 c102 c103 c104 c105 c106 c107 c108 c109 c110 c111 c112 c113 c114 c115 c116 c117 : Value}
    (hret : ∀ (d0 d1 d2 d3 d5 d6 d7 d8 d9 d10 d11 d12 d13 d14 d15 d16 d17 d18 d19 d20 d21 d22 d23 d24 d25 d26 d27 d28 d29 d30 d31 d32 d33 d34 d35 d36 d37 d38 d39 d40 d41 d42 d43 d44 d45 d46 d47 d48 d49 d50 d51 d52 d53 d54 d55 d56 d57 d58 d59 d60 d61 d62 d63 d64 d65 d66 d67 d68 d69 d70 d71 d72 d73 d74 d75 d76 d77 d78 d79 d80 d81 d82 d83 d84 d85 d86 d87 d88 d89 d90 d91 d92 d93 d94 d95 d96 d97 d98 d99 d100 d101 d102 d103 d104 d105 d106 d107 d108 d109 d110 d111 d112 d113 d114 d115 d116 d117 rv : Value) (w' : World), w'.ownsRow wq.heap.size tRk 2 rv RES.length (rowC RES) → Below wq.heap.size wq w' → Q .ret ⟨List.toArray (d0 :: d1 :: d2 :: d3 :: rv :: d5 :: d6 :: d7 :: d8 :: d9 :: d10 :: d11 :: d12 :: d13 :: d14 :: d15 :: d16 :: d17 :: d18 :: d19 :: d20 :: d21 :: d22 :: d23 :: d24 :: d25 :: d26 :: d27 :: d28 :: d29 :: d30 :: d31 :: d32 :: d33 :: d34 :: d35 :: d36 :: d37 :: d38 :: d39 :: d40 :: d41 :: d42 :: d43 :: d44 :: d45 :: d46 :: d47 :: d48 :: d49 :: d50 :: d51 :: d52 :: d53 :: d54 :: d55 :: d56 :: d57 :: d58 :: d59 :: d60 :: d61 :: d62 :: d63 :: d64 :: d65 :: d66 :: d67 :: d68 :: d69 :: d70 :: d71 :: d72 :: d73 :: d74 :: d75 :: d76 :: d77 :: d78 :: d79 :: d80 :: d81 :: d82 :: d83 :: d84 :: d85 :: d86 :: d87 :: d88 :: d89 :: d90 :: d91 :: d92 :: d93 :: d94 :: d95 :: d96 :: d97 :: d98 :: d99 :: d100 :: d101 :: d102 :: d103 :: d104 :: d105 :: d106 :: d107 :: d108 :: d109 :: d110 :: d111 :: d112 :: d113 :: d114 :: d115 :: d116 :: d117 :: []), []⟩ w') :
    Code.wp Tryz.prog (seqHd getFrom14) (Exit.then K Q) ⟨List.toArray (c0 :: c1 :: c2 :: c3 :: c4 :: .slice so srt.length co :: c6 :: c7 :: c8 :: c9 :: c10 :: c11 :: c12 :: c13 :: c14 :: c15 :: c16 :: c17 :: c18 :: c19 :: c20 :: c21 :: c22 :: c23 :: c24 :: c25 :: c26 :: c27 :: c28 :: c29 :: c30 :: c31 :: c32 :: c33 :: c34 :: c35 :: c36 :: c37 :: c38 :: c39 :: c40 :: c41 :: c42 :: c43 :: c44 :: c45 :: c46 :: c47 :: c48 :: c49 :: c50 :: c51 :: c52 :: c53 :: c54 :: c55 :: c56 :: c57 :: c58 :: c59 :: c60 :: c61 :: c62 :: c63 :: c64 :: c65 :: c66 :: c67 :: c68 :: c69 :: c70 :: c71 :: c72 :: c73 :: c74 :: c75 :: c76 :: c77 :: c78 :: c79 :: c80 :: c81 :: c82 :: c83 :: c84 :: c85 :: c86 :: c87 :: c88 :: c89 :: c90 :: c91 :: c92 :: c93 :: c94 :: c95 :: c96 :: c97 :: c98 :: c99 :: c100 :: c101 :: c102 :: c103 :: c104 :: c105 :: c106 :: c107 :: c108 :: c109 :: c110 :: c111 :: c112 :: c113 :: c114 :: c115 :: c116 :: c117 :: []), []⟩ wq := by
  obtain ⟨i2, di, dz0, dz1, dz2⟩ := info_parts infoRk
  conv => arg 2; whnf
  go_wp2_with fail
  conv => arg 2; whnf
  go_wp2_with fail
  all_goals (try (exfalso; omega))
  have Q0 : Hid (wq.ownsRow wq.heap.size tRk 2 (.slice none 0 0) (pairsK (srt.take 0)).length (rowC (pairsK (srt.take 0)))) := World.ownsRow_nil ..
  go_loopw [10, 12, 102] (fun out _ i wr => ∃ k : Nat, k ≤ srt.length ∧ i = .int .i64 k ∧ Hid (wr.ownsRow wq.heap.size tRk 2 out (pairsK (srt.take k)).length (rowC (pairsK (srt.take k)))) ∧ Hid (Below wq.heap.size wq wr)) (fun _ _ i _ => srt.length - (intOf i).toNat)
  case atStart => exact ⟨0, Nat.zero_le _, rfl, Q0, Below.refl _ _⟩
  clear Q0
  case round =>
    obtain ⟨k, hk2, rfl, hQ, hB⟩ := hrel
    obtain ⟨ws, hws⟩ : ∃ ws, ws = wr := ⟨wr, rfl⟩
    subst hws
    by_cases hlt : k < srt.length
    · obtain ⟨g, off, rfl, hg, hc⟩ := (LL.out.next hB.out).get k hlt
      have HSK : Hid (pairsK (srt.take (k + 1)) = pairsK (srt.take k) ++ [(srt[k].c.name, srt[k].c.value)]) := by
        unfold Hid pairsK
        rw [List.take_succ_eq_append_getElem hlt, List.map_append]; rfl
      have HLK : Hid ((pairsK (srt.take k)).length = k) := by unfold Hid pairsK; rw [List.length_map, List.length_take]; omega
      obtain ⟨x, hx⟩ := name_it srt[k]
      rw [hx.out] at hc HSK
      obtain ⟨acc, hacc⟩ := name_it (pairsK (srt.take k))
      rw [hacc.out] at hQ HSK HLK
      obtain ⟨so2, co2, hout2⟩ := row_slice hQ.out
      subst hout2
      clear hx hacc
      obtain ⟨⟨nm, v, pp, d, ma, hm, ex, he, sc, ht, sm⟩, dom, kp, till, ends⟩ := x
      have z0 : ws.cell? ⟨g, off + k * 15, none⟩ = some (.string (bs nm)) := hc 0 _ (by decide) rfl
      have z1 : ws.cell? ⟨g, off + k * 15 + 1, none⟩ = some (.string (bs v)) := hc 1 _ (by decide) rfl
      have z2 : ws.cell? ⟨g, off + k * 15 + 2, none⟩ = some (.string (bs pp)) := hc 2 _ (by decide) rfl
      have z3 : ws.cell? ⟨g, off + k * 15 + 3, none⟩ = some (.string (bs d)) := hc 3 _ (by decide) rfl
      have z4 : ws.cell? ⟨g, off + k * 15 + 4, none⟩ = some (.int .i64 ma) := hc 4 _ (by decide) rfl
      have z5 : ws.cell? ⟨g, off + k * 15 + 5, none⟩ = some (.bool hm) := hc 5 _ (by decide) rfl
      have z6 : ws.cell? ⟨g, off + k * 15 + 6, none⟩ = some (.int .i64 ex) := hc 6 _ (by decide) rfl
      have z7 : ws.cell? ⟨g, off + k * 15 + 7, none⟩ = some (.bool he) := hc 7 _ (by decide) rfl
      have z8 : ws.cell? ⟨g, off + k * 15 + 8, none⟩ = some (.bool sc) := hc 8 _ (by decide) rfl
      have z9 : ws.cell? ⟨g, off + k * 15 + 9, none⟩ = some (.bool ht) := hc 9 _ (by decide) rfl
      have z10 : ws.cell? ⟨g, off + k * 15 + 10, none⟩ = some (.int .i64 sm) := hc 10 _ (by decide) rfl
      have z11 : ws.cell? ⟨g, off + k * 15 + 11, none⟩ = some (.string (bs dom)) := hc 11 _ (by decide) rfl
      have z12 : ws.cell? ⟨g, off + k * 15 + 12, none⟩ = some (.string (bs kp)) := hc 12 _ (by decide) rfl
      have z13 : ws.cell? ⟨g, off + k * 15 + 13, none⟩ = some (.int .i64 till) := hc 13 _ (by decide) rfl
      have z14 : ws.cell? ⟨g, off + k * 15 + 14, none⟩ = some (.bool ends) := hc 14 _ (by decide) rfl
      clear hc
      go_upto_region 18 with fail
      all_goals (try (exfalso; omega))
      have KC := Lib.hid (CellsAt.first ws (cellsP ⟨⟨nm, v, pp, d, ma, hm, ex, he, sc, ht, sm⟩, dom, kp, till, ends⟩) tKp)
      have KC : Hid (CellsAt (ws.alloc (.cells #[.string (bs nm), .string (bs v), .string (bs pp), .string (bs d), .int .i64 ma, .bool hm, .int .i64 ex, .bool he, .bool sc, .bool ht, .int .i64 sm, .string (bs dom), .string (bs kp), .int .i64 till, .bool ends] tKp)) ws.heap.size (cellsP ⟨⟨nm, v, pp, d, ma, hm, ex, he, sc, ht, sm⟩, dom, kp, till, ends⟩)) := KC
      have BA : Hid (Below wq.heap.size wq (ws.alloc (.cells #[.string (bs nm), .string (bs v), .string (bs pp), .string (bs d), .int .i64 ma, .bool hm, .int .i64 ex, .bool he, .bool sc, .bool ht, .int .i64 sm, .string (bs dom), .string (bs kp), .int .i64 till, .bool ends] tKp))) := hB.out.alloc hB.out.size (.cells #[.string (bs nm), .string (bs v), .string (bs pp), .string (bs d), .int .i64 ma, .bool hm, .int .i64 ex, .bool he, .bool sc, .bool ht, .int .i64 sm, .string (bs dom), .string (bs kp), .int .i64 till, .bool ends] tKp)
      have QA : Hid ((ws.alloc (.cells #[.string (bs nm), .string (bs v), .string (bs pp), .string (bs d), .int .i64 ma, .bool hm, .int .i64 ex, .bool he, .bool sc, .bool ht, .int .i64 sm, .string (bs dom), .string (bs kp), .int .i64 till, .bool ends] tKp)).ownsRow wq.heap.size tRk 2 (.slice so2 acc.length co2) acc.length (rowC acc)) := hQ.out.alloc (.cells #[.string (bs nm), .string (bs v), .string (bs pp), .string (bs d), .int .i64 ma, .bool hm, .int .i64 ex, .bool he, .bool sc, .bool ht, .int .i64 sm, .string (bs dom), .string (bs kp), .int .i64 till, .bool ends] tKp)
      clear hB hQ z0 z1 z2 z3 z4 z5 z6 z7 z8 z9 z10 z11 z12 z13 z14
      obtain ⟨m, hm'⟩ := name_it ws.heap.size
      rw [hm'.out] at KC ⊢
      clear hm'
      generalize ws.alloc _ = w5 at KC BA QA ⊢
      have c0 : w5.cell? ⟨m, 0, none⟩ = some (.string (bs nm)) := KC.out.at 0 _ rfl
      have c1 : w5.cell? ⟨m, 1, none⟩ = some (.string (bs v)) := KC.out.at 1 _ rfl
      have hBd : wq.heap.size ≤ w5.heap.size := BA.out.size
      have hsl := HSL.out
      go_wp2_with (at_builtin; refine append2 (by rfl) _ _ tRks (by rfl) wq.heap.size tRk i2 (.agg #[.string ⟨#[]⟩, .string ⟨#[]⟩]) 32 Tryz.underlying31 di dz0 dz1 dz2 rfl QA.out (by rfl) (.string (bs nm)) (.string (bs v)) rfl rfl (by rfl) (by have := HLK.out; unfold maxLen; omega) (by have := HLK.out; omega) hBd ?_)
      all_goals (try (exfalso; omega))
      intro g7 cap7 w7 hg7 hown7 hb7
      have Q7 : Hid (w7.ownsRow wq.heap.size tRk 2 (.slice (some ⟨g7, 0, none⟩) (acc.length + 1) cap7) (pairsK (srt.take (k + 1))).length (rowC (pairsK (srt.take (k + 1))))) := by
        rw [HSK.out, List.length_append, List.length_singleton, rowC_snoc]; exact hown7
      have B7 := Lib.hid (BA.out.trans hb7)
      clear hown7 hb7
      go_wp2_with fail
      go_roundw
      case rel => exact ⟨k + 1, by omega, by go_num, Q7, B7⟩
      case measure => simp [intOf]; omega
    · obtain rfl : k = srt.length := by omega
      rw [List.take_length] at hQ
      have hpr : pairsK srt = RES := HFA.out
      rw [hpr] at hQ
      have HRT := Lib.hid hret
      clear hret
      go_wp2_with fail
      all_goals (try (exfalso; omega))
      exact HRT.out _ _ _ _ _ _ _ _ _ _ _ _ _ _ _ _ _ _ _ _ _ _ _ _ _ _ _ _ _ _ _ _ _ _ _ _ _ _ _ _ _ _ _ _ _ _ _ _ _ _ _ _ _ _ _ _ _ _ _ _ _ _ _ _ _ _ _ _ _ _ _ _ _ _ _ _ _ _ _ _ _ _ _ _ _ _ _ _ _ _ _ _ _ _ _ _ _ _ _ _ _ _ _ _ _ _ _ _ _ _ _ _ _ _ _ _ _ _ _ hQ.out hB.out
end Go.Proofs.YtkenianfpfamcaaGreatDoor
