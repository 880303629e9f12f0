/- The document's Set: the cookie is put in. -/
import Derived.Test.YtkenianfpfamcaaGreatDoorDocPeJ
namespace Go.Proofs.YtkenianfpfamcaaGreatDoor
open Go Go.RowKit
set_option maxHeartbeats 64000000

set_option maxRecDepth 100000 in
theorem rset_t27b {Q : Exit → Act → World → Prop} {K1 K2 : Act → World → Prop} (hK1 : ∀ a w, Code.wp Tryz.prog (seqTl (seqHd setFrom27)) (Exit.then K2 Q) a w → K1 a w) {most b m cap B6 co : Nat} {p so : Option Addr} {l R : List Kp} {V : Int} {host path : List UInt8} {sec : Bool} {now : Int} {w wq : World} {nm v pp d : List UInt8} {ma : Int} {hm : Bool} {ex : Int} {he sc ht : Bool} {sm : Int} {dom kp : List UInt8} {till : Int} {ends : Bool}
 (hln : l.length ≤ 3000) (HCP : Hid (l.length ≤ cap)) (HK : Hid ((l.map Kp.key).Nodup)) (HL : Hid (KpL w p l))
    (SB : Hid (V ≠ 0 → R = l)) (HRR : Hid (V = 0 → R = trimJ most now (putC l ⟨(⟨nm, v, pp, d, ma, hm, ex, he, sc, ht, sm⟩ : SetC), dom, kp, till, ends⟩)))
    (FW : Hid (V = match wasC l ⟨(⟨nm, v, pp, d, ma, hm, ex, he, sc, ht, sm⟩ : SetC), dom, kp, till, ends⟩ with | none => 0 | some y => if sec = false ∧ y.c.secure = true ∧ y.over now = false then 163 else 0))
    (RQ : Hid (Rs w b most p l.length cap (⟨nm, v, pp, d, ma, hm, ex, he, sc, ht, sm⟩ : SetC) host path sec now wq)) (KQ : Hid (CellsAt wq m (cellsP ⟨(⟨nm, v, pp, d, ma, hm, ex, he, sc, ht, sm⟩ : SetC), dom, kp, till, ends⟩))) (QQ : Hid (wq.ownsRow B6 tKp 15 (.slice so l.length co) l.length (flat cellsP l))) 
    {c0 c1 c2 c7 c8 c12 c13 c14 c15 c16 c17 c18 c19 c20 c21 c22 c23 c24 c25 c26 c27 c28 c29 c30 c31 c32 c33 c34 c35 c36 c37 c38 c39 c40 c41 c42 c43 c44 c45 c46 c47 c48 c49 c50 c51 c52 c53 c54 c55 c56 c57 c58 c59 c60 c61 c62 c63 c64 c65 c66 c67 c68 c69 c70 c71 c72 c73 c74 c75 c76 c77 c78 c79 c80 c81 c82 c83 c84 c85 c86 c87 c88 c89 c90 c91 c92 c93 c94 c95 c96 c97 c98 c99 c100 c101 c102 c103 c104 c105 c106 c107 c108 c109 c110 c111 c112 c113 c114 c115 c116 c117 c118 c119 c120 c121 c122 c123 c124 c125 c126 c127 c128 c129 c130 c131 c132 c133 c134 c135 c136 c137 c138 c139 c140 c141 c142 c143 c144 c145 c146 c147 c148 c149 c150 c151 c152 c153 c154 c155 c156 c157 c158 c159 c160 c161 c162 c163 c164 c165 c166 c167 c168 c169 c170 c171 c172 c173 c174 c175 c176 c177 c178 c179 c180 c181 c182 c183 c184 c185 c186 c187 : Value}
    (HA : Hid (0 ≤ plc (nm, dom, kp) l l.length)) (HW : Hid (V ≠ 0))
    (hret : ∀ (d0 d1 d2 d8 d9 d10 d11 d12 d13 d14 d15 d16 d17 d18 d19 d20 d21 d22 d23 d24 d25 d26 d27 d28 d29 d30 d31 d32 d33 d34 d35 d36 d37 d38 d39 d40 d41 d42 d43 d44 d45 d46 d47 d48 d49 d50 d51 d52 d53 d54 d55 d56 d57 d58 d59 d60 d61 d62 d63 d64 d65 d66 d67 d68 d69 d70 d71 d72 d73 d74 d75 d76 d77 d78 d79 d80 d81 d82 d83 d84 d85 d86 d87 d88 d89 d90 d91 d92 d93 d94 d95 d96 d97 d98 d99 d100 d101 d102 d103 d104 d105 d106 d107 d108 d109 d110 d111 d112 d113 d114 d115 d116 d117 d118 d119 d120 d121 d122 d123 d124 d125 d126 d127 d128 d129 d130 d131 d132 d133 d134 d135 d136 d137 d138 d139 d140 d141 d142 d143 d144 d145 d146 d147 d148 d149 d150 d151 d152 d153 d154 d155 d156 d157 d158 d159 d160 d161 d162 d163 d164 d165 d166 d167 d168 d169 d170 d171 d172 d173 d174 d175 d176 d177 d178 d179 d180 d181 d182 d183 d184 d185 d186 d187 : Value) (q : Option Addr) (cap0 : Nat) (w0 : World), w0.cell? ⟨b + 3, 0, none⟩ = some (.int .i64 most) → w0.cell? ⟨b + 3, 1, none⟩ = some (.slice q R.length cap0) → R.length ≤ cap0 → KpL w0 q R → (q = p ∧ R = l ∨ ∀ g off, q = some ⟨g, off, none⟩ → w.heap.size ≤ g) → Below w.heap.size w w0 → Q .ret ⟨List.toArray (d0 :: d1 :: d2 :: .pointer (some ⟨b, 0, none⟩) :: .pointer (some ⟨b + 1, 0, none⟩) :: .pointer (some ⟨b + 2, 0, none⟩) :: .pointer (some ⟨b + 3, 0, none⟩) :: .int .i64 V :: d8 :: d9 :: d10 :: d11 :: d12 :: d13 :: d14 :: d15 :: d16 :: d17 :: d18 :: d19 :: d20 :: d21 :: d22 :: d23 :: d24 :: d25 :: d26 :: d27 :: d28 :: d29 :: d30 :: d31 :: d32 :: d33 :: d34 :: d35 :: d36 :: d37 :: d38 :: d39 :: d40 :: d41 :: d42 :: d43 :: d44 :: d45 :: d46 :: d47 :: d48 :: d49 :: d50 :: d51 :: d52 :: d53 :: d54 :: d55 :: d56 :: d57 :: d58 :: d59 :: d60 :: d61 :: d62 :: d63 :: d64 :: d65 :: d66 :: d67 :: d68 :: d69 :: d70 :: d71 :: d72 :: d73 :: d74 :: d75 :: d76 :: d77 :: d78 :: d79 :: d80 :: d81 :: d82 :: d83 :: d84 :: d85 :: d86 :: d87 :: d88 :: d89 :: d90 :: d91 :: d92 :: d93 :: d94 :: d95 :: d96 :: d97 :: d98 :: d99 :: d100 :: d101 :: d102 :: d103 :: d104 :: d105 :: d106 :: d107 :: d108 :: d109 :: d110 :: d111 :: d112 :: d113 :: d114 :: d115 :: d116 :: d117 :: d118 :: d119 :: d120 :: d121 :: d122 :: d123 :: d124 :: d125 :: d126 :: d127 :: d128 :: d129 :: d130 :: d131 :: d132 :: d133 :: d134 :: d135 :: d136 :: d137 :: d138 :: d139 :: d140 :: d141 :: d142 :: d143 :: d144 :: d145 :: d146 :: d147 :: d148 :: d149 :: d150 :: d151 :: d152 :: d153 :: d154 :: d155 :: d156 :: d157 :: d158 :: d159 :: d160 :: d161 :: d162 :: d163 :: d164 :: d165 :: d166 :: d167 :: d168 :: d169 :: d170 :: d171 :: d172 :: d173 :: d174 :: d175 :: d176 :: d177 :: d178 :: d179 :: d180 :: d181 :: d182 :: d183 :: d184 :: d185 :: d186 :: d187 :: []), []⟩ w0) :
    Code.wp Tryz.prog (seqHd (seqHd setFrom27)) (Exit.then K1 (Exit.then K2 Q)) ⟨List.toArray (c0 :: c1 :: c2 :: .pointer (some ⟨b, 0, none⟩) :: .pointer (some ⟨b + 1, 0, none⟩) :: .pointer (some ⟨b + 2, 0, none⟩) :: .pointer (some ⟨b + 3, 0, none⟩) :: c7 :: c8 :: .pointer (some ⟨m, 0, none⟩) :: .slice so l.length co :: .int .i64 (plc (nm, dom, kp) l l.length) :: c12 :: c13 :: c14 :: c15 :: c16 :: c17 :: c18 :: c19 :: c20 :: c21 :: c22 :: c23 :: c24 :: c25 :: c26 :: c27 :: c28 :: c29 :: c30 :: c31 :: c32 :: c33 :: c34 :: c35 :: c36 :: c37 :: c38 :: c39 :: c40 :: c41 :: c42 :: c43 :: c44 :: c45 :: c46 :: c47 :: c48 :: c49 :: c50 :: c51 :: c52 :: c53 :: c54 :: c55 :: c56 :: c57 :: c58 :: c59 :: c60 :: c61 :: c62 :: c63 :: c64 :: c65 :: c66 :: c67 :: c68 :: c69 :: c70 :: c71 :: c72 :: c73 :: c74 :: c75 :: c76 :: c77 :: c78 :: c79 :: c80 :: c81 :: c82 :: c83 :: c84 :: c85 :: c86 :: c87 :: c88 :: c89 :: c90 :: c91 :: c92 :: c93 :: c94 :: c95 :: c96 :: c97 :: c98 :: c99 :: c100 :: c101 :: c102 :: c103 :: c104 :: c105 :: c106 :: c107 :: c108 :: c109 :: c110 :: c111 :: c112 :: c113 :: c114 :: c115 :: c116 :: c117 :: c118 :: c119 :: c120 :: c121 :: c122 :: c123 :: c124 :: c125 :: c126 :: c127 :: c128 :: c129 :: c130 :: c131 :: c132 :: c133 :: c134 :: c135 :: c136 :: c137 :: c138 :: c139 :: c140 :: c141 :: c142 :: c143 :: c144 :: c145 :: c146 :: c147 :: c148 :: c149 :: c150 :: c151 :: c152 :: c153 :: c154 :: c155 :: c156 :: c157 :: c158 :: c159 :: c160 :: c161 :: c162 :: c163 :: c164 :: c165 :: c166 :: c167 :: c168 :: c169 :: c170 :: c171 :: c172 :: c173 :: c174 :: c175 :: c176 :: c177 :: c178 :: c179 :: c180 :: c181 :: c182 :: c183 :: c184 :: c185 :: c186 :: c187 :: []), []⟩ wq := by
  obtain ⟨i1, ci, cz0, cz1, cz2⟩ := info_parts infoKp
  have PU := Lib.hid (plc_upto (nm, dom, kp) l l.length (Nat.le_refl _))
  obtain ⟨PL, hPL⟩ := name_it (plc (nm, dom, kp) l l.length)
  rw [hPL.out] at PU ⊢
  rw [hPL.out] at HA
  clear hPL
  obtain ⟨R1, hR1⟩ := name_it (putC l ⟨(⟨nm, v, pp, d, ma, hm, ex, he, sc, ht, sm⟩ : SetC), dom, kp, till, ends⟩)
  have HR1 : Hid (putC l ⟨(⟨nm, v, pp, d, ma, hm, ex, he, sc, ht, sm⟩ : SetC), dom, kp, till, ends⟩ = R1) := hR1
  have LR1 : Hid (R1.length ≤ l.length + 1) := by have := put_length l ⟨(⟨nm, v, pp, d, ma, hm, ex, he, sc, ht, sm⟩ : SetC), dom, kp, till, ends⟩; rw [hR1.out] at this; exact this
  have HSJ : Hid (V = 0 → R = trimJ most now R1) := fun hv => by rw [HRR.out hv, hR1.out]
  have FW2 : Hid (V = match wasC l ⟨(⟨nm, v, pp, d, ma, hm, ex, he, sc, ht, sm⟩ : SetC), dom, kp, till, ends⟩ with | none => 0 | some y => if sec = false ∧ y.c.secure = true ∧ y.over now = false then 163 else 0) := FW.out
  clear hR1 FW
  conv => arg 2; whnf
  go_cut [128] from 14 (fun t wx => t = .bool (decide ((0 : Int) ≤ PL)) ∧ wx = wq)
  case first =>
    go_wp2_with fail
    go_meet
    case rel => exact ⟨rfl, rfl⟩
  case rest =>
  obtain ⟨rfl, hwc⟩ := hcut
  rw [hwc]
  clear hwc
  obtain ⟨PB, hPB⟩ := name_it (decide ((0 : Int) ≤ PL))
  rw [hPB.out]
  go_wp2_with fail
  conv => arg 2; whnf
  go_upto_if 128 with fail
  go_cut [10] from 14 (fun s wx => ∃ q cap', s = .slice q R1.length cap' ∧ Hid (wx.ownsRow B6 tKp 15 (.slice q R1.length cap') R1.length (flat cellsP R1)) ∧ Hid (Rs w b most p l.length cap (⟨nm, v, pp, d, ma, hm, ex, he, sc, ht, sm⟩ : SetC) host path sec now wx) ∧ Hid (V = 0))
  case first =>
    cases PB with
    | false =>
      exact absurd HA.out (of_decide_eq_false hPB.out)
    | true =>
      have hex : ∃ (i : Nat) (hi : i < l.length), PL = i ∧ l[i].key = (nm, dom, kp) := by
        rcases PU.out with ⟨h1, _⟩ | ⟨i, hi, h1, _, h3⟩
        · exact absurd (of_decide_eq_true hPB.out) (by rw [h1]; decide)
        · exact ⟨i, hi, h1, h3⟩
      obtain ⟨i, hi, hPi, h3⟩ := hex
      have WS := was_some HK.out (k := ⟨(⟨nm, v, pp, d, ma, hm, ex, he, sc, ht, sm⟩ : SetC), dom, kp, till, ends⟩) hi h3
      have HRE : Hid (R1 = l.set i ⟨(⟨nm, v, pp, d, ma, hm, ex, he, sc, ht, sm⟩ : SetC), dom, kp, till, ends⟩) := by rw [← HR1.out]; exact WS.2
      have HV9 : Hid (V = if sec = false ∧ l[i].c.secure = true ∧ l[i].over now = false then 163 else 0) := by rw [FW2.out, WS.1]; exact rfl
      have OV := Lib.hid (fun wx => rover_any l[i] now wx)
      obtain ⟨g, rfl, hg⟩ := row_zero QQ.out (by omega)
      have HG := Lib.hid hg
      have HC9 := Lib.hid (fun j hj v hv => row_cell cellsP_len QQ.out i hi j hj v hv)
      clear WS FW2 HR1 PU HSJ hPB h3 hg
      subst hPi
      obtain ⟨y, hy⟩ := name_it l[i]
      rw [hy.out] at OV HC9 HV9
      obtain ⟨yov, hyov⟩ := name_it (y.over now)
      rw [hyov.out] at OV HV9
      clear hy hyov
      obtain ⟨⟨ynm, yv, yp, yd, yma, yhm, yex, yhe, ysc, yht, ysm⟩, ydom, ypath, ytill, yends⟩ := y
      unfold cellsP cellsS at OV
      simp only [List.cons_append, List.nil_append] at OV
      simp only at HV9
      have z0 : wq.cell? ⟨g, i * 15, none⟩ = some (.string (bs ynm)) := HC9.out 0 (by decide) _ rfl
      have z1 : wq.cell? ⟨g, i * 15 + 1, none⟩ = some (.string (bs yv)) := HC9.out 1 (by decide) _ rfl
      have z2 : wq.cell? ⟨g, i * 15 + 2, none⟩ = some (.string (bs yp)) := HC9.out 2 (by decide) _ rfl
      have z3 : wq.cell? ⟨g, i * 15 + 3, none⟩ = some (.string (bs yd)) := HC9.out 3 (by decide) _ rfl
      have z4 : wq.cell? ⟨g, i * 15 + 4, none⟩ = some (.int .i64 yma) := HC9.out 4 (by decide) _ rfl
      have z5 : wq.cell? ⟨g, i * 15 + 5, none⟩ = some (.bool yhm) := HC9.out 5 (by decide) _ rfl
      have z6 : wq.cell? ⟨g, i * 15 + 6, none⟩ = some (.int .i64 yex) := HC9.out 6 (by decide) _ rfl
      have z7 : wq.cell? ⟨g, i * 15 + 7, none⟩ = some (.bool yhe) := HC9.out 7 (by decide) _ rfl
      have z8 : wq.cell? ⟨g, i * 15 + 8, none⟩ = some (.bool ysc) := HC9.out 8 (by decide) _ rfl
      have z9 : wq.cell? ⟨g, i * 15 + 9, none⟩ = some (.bool yht) := HC9.out 9 (by decide) _ rfl
      have z10 : wq.cell? ⟨g, i * 15 + 10, none⟩ = some (.int .i64 ysm) := HC9.out 10 (by decide) _ rfl
      have z11 : wq.cell? ⟨g, i * 15 + 11, none⟩ = some (.string (bs ydom)) := HC9.out 11 (by decide) _ rfl
      have z12 : wq.cell? ⟨g, i * 15 + 12, none⟩ = some (.string (bs ypath)) := HC9.out 12 (by decide) _ rfl
      have z13 : wq.cell? ⟨g, i * 15 + 13, none⟩ = some (.int .i64 ytill) := HC9.out 13 (by decide) _ rfl
      have z14 : wq.cell? ⟨g, i * 15 + 14, none⟩ = some (.bool yends) := HC9.out 14 (by decide) _ rfl
      have x2 : wq.cell? ⟨b + 2, 2, none⟩ = some (.bool sec) := RQ.out.kx.at 2 _ rfl
      have x3 : wq.cell? ⟨b + 2, 3, none⟩ = some (.int .i64 now) := RQ.out.kx.at 3 _ rfl
      have RK := Lib.hid RQ.out.kx.lt
      have GLT : Hid (g < wq.heap.size) := (World.ownsRow.lt QQ.out g rfl).2
      go_upto_region 28 with fail
      all_goals (try (exfalso; omega))
      go_cut [149] from 14 (fun t wx => t = .bool (!sec && (ysc && !yov)) ∧ Hid (Below wq.heap.size wq wx))
      case first =>
        clear HV9 HRE HC9
        cases sec with
        | true =>
          clear OV
          go_quiet (fail)
          go_wp2_with fail
          go_meet
          case rel => exact ⟨rfl, below_of_drewN _⟩
        | false =>
          cases ysc with
          | false =>
            clear OV
            go_quiet (fail)
            go_wp2_with fail
            go_meet
            case rel => exact ⟨rfl, below_of_drewN _⟩
          | true =>
            have SK : Hid (∀ W : World, Below wq.heap.size wq W → W.cell? ⟨g, i * 15, none⟩ = some (.string (bs ynm)) ∧ W.cell? ⟨g, i * 15 + 1, none⟩ = some (.string (bs yv)) ∧ W.cell? ⟨g, i * 15 + 2, none⟩ = some (.string (bs yp)) ∧ W.cell? ⟨g, i * 15 + 3, none⟩ = some (.string (bs yd)) ∧ W.cell? ⟨g, i * 15 + 4, none⟩ = some (.int .i64 yma) ∧ W.cell? ⟨g, i * 15 + 5, none⟩ = some (.bool yhm) ∧ W.cell? ⟨g, i * 15 + 6, none⟩ = some (.int .i64 yex) ∧ W.cell? ⟨g, i * 15 + 7, none⟩ = some (.bool yhe) ∧ W.cell? ⟨g, i * 15 + 8, none⟩ = some (.bool true) ∧ W.cell? ⟨g, i * 15 + 9, none⟩ = some (.bool yht) ∧ W.cell? ⟨g, i * 15 + 10, none⟩ = some (.int .i64 ysm) ∧ W.cell? ⟨g, i * 15 + 11, none⟩ = some (.string (bs ydom)) ∧ W.cell? ⟨g, i * 15 + 12, none⟩ = some (.string (bs ypath)) ∧ W.cell? ⟨g, i * 15 + 13, none⟩ = some (.int .i64 ytill) ∧ W.cell? ⟨g, i * 15 + 14, none⟩ = some (.bool yends) ∧ W.cell? ⟨b + 2, 2, none⟩ = some (.bool false) ∧ W.cell? ⟨b + 2, 3, none⟩ = some (.int .i64 now)) := fun W hW => ⟨(hW.cell (p := ⟨g, i * 15, none⟩) GLT.out).trans z0, (hW.cell (p := ⟨g, i * 15 + 1, none⟩) GLT.out).trans z1, (hW.cell (p := ⟨g, i * 15 + 2, none⟩) GLT.out).trans z2, (hW.cell (p := ⟨g, i * 15 + 3, none⟩) GLT.out).trans z3, (hW.cell (p := ⟨g, i * 15 + 4, none⟩) GLT.out).trans z4, (hW.cell (p := ⟨g, i * 15 + 5, none⟩) GLT.out).trans z5, (hW.cell (p := ⟨g, i * 15 + 6, none⟩) GLT.out).trans z6, (hW.cell (p := ⟨g, i * 15 + 7, none⟩) GLT.out).trans z7, (hW.cell (p := ⟨g, i * 15 + 8, none⟩) GLT.out).trans z8, (hW.cell (p := ⟨g, i * 15 + 9, none⟩) GLT.out).trans z9, (hW.cell (p := ⟨g, i * 15 + 10, none⟩) GLT.out).trans z10, (hW.cell (p := ⟨g, i * 15 + 11, none⟩) GLT.out).trans z11, (hW.cell (p := ⟨g, i * 15 + 12, none⟩) GLT.out).trans z12, (hW.cell (p := ⟨g, i * 15 + 13, none⟩) GLT.out).trans z13, (hW.cell (p := ⟨g, i * 15 + 14, none⟩) GLT.out).trans z14, (hW.cell (p := ⟨b + 2, 2, none⟩) RK.out).trans x2, (hW.cell (p := ⟨b + 2, 3, none⟩) RK.out).trans x3⟩
            have bd := Lib.hid ((Below.refl wq.heap.size wq).drew)
            go_region_held3 (fun W => W.cell? ⟨g, i * 15, none⟩ = some (.string (bs ynm)) ∧ W.cell? ⟨g, i * 15 + 1, none⟩ = some (.string (bs yv)) ∧ W.cell? ⟨g, i * 15 + 2, none⟩ = some (.string (bs yp)) ∧ W.cell? ⟨g, i * 15 + 3, none⟩ = some (.string (bs yd)) ∧ W.cell? ⟨g, i * 15 + 4, none⟩ = some (.int .i64 yma) ∧ W.cell? ⟨g, i * 15 + 5, none⟩ = some (.bool yhm) ∧ W.cell? ⟨g, i * 15 + 6, none⟩ = some (.int .i64 yex) ∧ W.cell? ⟨g, i * 15 + 7, none⟩ = some (.bool yhe) ∧ W.cell? ⟨g, i * 15 + 8, none⟩ = some (.bool true) ∧ W.cell? ⟨g, i * 15 + 9, none⟩ = some (.bool yht) ∧ W.cell? ⟨g, i * 15 + 10, none⟩ = some (.int .i64 ysm) ∧ W.cell? ⟨g, i * 15 + 11, none⟩ = some (.string (bs ydom)) ∧ W.cell? ⟨g, i * 15 + 12, none⟩ = some (.string (bs ypath)) ∧ W.cell? ⟨g, i * 15 + 13, none⟩ = some (.int .i64 ytill) ∧ W.cell? ⟨g, i * 15 + 14, none⟩ = some (.bool yends) ∧ W.cell? ⟨b + 2, 2, none⟩ = some (.bool false) ∧ W.cell? ⟨b + 2, 3, none⟩ = some (.int .i64 now))
              (first | assumption | exact SK.out _ bd.out | exact SK.out _ (bd.out.trans hb9))
              ((go_at_call 65; refine (OV.out _).mono ?_; rintro e w' ⟨rfl, hb9⟩))
            all_goals
              go_wp2_with fail
              go_meet
              case rel => exact ⟨by simp, bd.out.trans hb9⟩
      case rest =>
      obtain ⟨rfl, hb9⟩ := hcut
      obtain ⟨w9, hw9⟩ : ∃ w9, w9 = wc := ⟨wc, rfl⟩
      subst hw9
      have R9 := Lib.hid (RQ.out.next hb9.out)
      have K9 := Lib.hid (KQ.out.next hb9.out)
      have Q9 := Lib.hid (row_kept QQ.out (w' := w9) (fun g hg => hb9.out.block g (World.ownsRow.lt QQ.out g hg).2))
      clear RQ KQ QQ hb9 x2 x3 OV HC9 RK GLT z0 z1 z2 z3 z4 z5 z6 z7 z8 z9 z10 z11 z12 z13 z14
      cases hT : (!sec && (ysc && !yov)) with
      | true =>
        have HV2 : Hid (V = 163) := by
          unfold Hid; rw [HV9.out, if_pos (by simpa using hT)]
        have HR2 : Hid (R = l) := SB.out (by rw [HV2.out]; decide)
        clear HV9 hT K9 Q9 HRE
        have j0 := R9.out.kj.at 0 _ rfl
        have j1 := R9.out.kj.at 1 _ rfl
        have z0 := R9.out.kr.at 0 _ rfl
        have z1 := R9.out.kr.at 1 _ rfl
        have y0 := R9.out.kr.free 0
        have y1 := R9.out.kr.free 1
        obtain ⟨KE0, DE0⟩ := R9.out.ret
        have KE := Lib.hid KE0
        have DE := Lib.hid DE0
        clear KE0 DE0
        unfold putAll putAll putAll at KE DE
        have f0 := KE.out.at 0 _ rfl
        have f1 := KE.out.at 1 _ rfl
        simp only [Nat.zero_add] at DE f0 f1
        have LL := Lib.hid (HL.out.next DE.out)
        have HRT9 := Lib.hid hret
        clear hret
        obtain rfl := HV2.out
        obtain rfl := HR2.out
        go_wp2_with fail
        exact HRT9.out _ _ _ _ _ _ _ _ _ _ _ _ _ _ _ _ _ _ _ _ _ _ _ _ _ _ _ _ _ _ _ _ _ _ _ _ _ _ _ _ _ _ _ _ _ _ _ _ _ _ _ _ _ _ _ _ _ _ _ _ _ _ _ _ _ _ _ _ _ _ _ _ _ _ _ _ _ _ _ _ _ _ _ _ _ _ _ _ _ _ _ _ _ _ _ _ _ _ _ _ _ _ _ _ _ _ _ _ _ _ _ _ _ _ _ _ _ _ _ _ _ _ _ _ _ _ _ _ _ _ _ _ _ _ _ _ _ _ _ _ _ _ _ _ _ _ _ _ _ _ _ _ _ _ _ _ _ _ _ _ _ _ _ _ _ _ _ _ _ _ _ _ _ _ _ _ _ _ _ _ _ _ _ p cap _ f0 f1 HCP.out LL.out (Or.inl ⟨rfl, by trivial⟩) DE.out
      | false =>
        exact absurd (by rw [HV9.out, if_neg (fun h => by rw [h.1, h.2.1, h.2.2] at hT; cases hT)]) HW.out
  case rest =>
  obtain ⟨q, cap2, rfl, Q10, R10, HV0⟩ := hcut
  obtain ⟨w10, hw10⟩ : ∃ w10, w10 = wc := ⟨wc, rfl⟩
  exact absurd HV0.out HW.out
set_option maxRecDepth 100000 in
theorem rset_t27 {Q : Exit → Act → World → Prop} {K1 K2 : Act → World → Prop} (hK1 : ∀ a w, Code.wp Tryz.prog (seqTl (seqHd setFrom27)) (Exit.then K2 Q) a w → K1 a w) (hK2 : ∀ a w, Code.wp Tryz.prog (seqTl setFrom27) Q a w → K2 a w) {most b m cap B6 co : Nat} {p so : Option Addr} {l R : List Kp} {V : Int} {host path : List UInt8} {sec : Bool} {now : Int} {w wq : World} {nm v pp d : List UInt8} {ma : Int} {hm : Bool} {ex : Int} {he sc ht : Bool} {sm : Int} {dom kp : List UInt8} {till : Int} {ends : Bool}
    (hm1 : 1 ≤ most) (hm2 : most ≤ 3000) (hln : l.length ≤ 3000) (HCP : Hid (l.length ≤ cap)) (HK : Hid ((l.map Kp.key).Nodup)) (HL : Hid (KpL w p l))
    (SB : Hid (V ≠ 0 → R = l)) (HRR : Hid (V = 0 → R = trimJ most now (putC l ⟨(⟨nm, v, pp, d, ma, hm, ex, he, sc, ht, sm⟩ : SetC), dom, kp, till, ends⟩)))
    (FW : Hid (V = match wasC l ⟨(⟨nm, v, pp, d, ma, hm, ex, he, sc, ht, sm⟩ : SetC), dom, kp, till, ends⟩ with | none => 0 | some y => if sec = false ∧ y.c.secure = true ∧ y.over now = false then 163 else 0))
    (RQ : Hid (Rs w b most p l.length cap (⟨nm, v, pp, d, ma, hm, ex, he, sc, ht, sm⟩ : SetC) host path sec now wq)) (KQ : Hid (CellsAt wq m (cellsP ⟨(⟨nm, v, pp, d, ma, hm, ex, he, sc, ht, sm⟩ : SetC), dom, kp, till, ends⟩))) (QQ : Hid (wq.ownsRow B6 tKp 15 (.slice so l.length co) l.length (flat cellsP l))) (GB : Hid (b + 4 ≤ B6 ∧ m < B6 ∧ B6 ≤ wq.heap.size))
    {c0 c1 c2 c7 c8 c12 c13 c14 c15 c16 c17 c18 c19 c20 c21 c22 c23 c24 c25 c26 c27 c28 c29 c30 c31 c32 c33 c34 c35 c36 c37 c38 c39 c40 c41 c42 c43 c44 c45 c46 c47 c48 c49 c50 c51 c52 c53 c54 c55 c56 c57 c58 c59 c60 c61 c62 c63 c64 c65 c66 c67 c68 c69 c70 c71 c72 c73 c74 c75 c76 c77 c78 c79 c80 c81 c82 c83 c84 c85 c86 c87 c88 c89 c90 c91 c92 c93 c94 c95 c96 c97 c98 c99 c100 c101 c102 c103 c104 c105 c106 c107 c108 c109 c110 c111 c112 c113 c114 c115 c116 c117 c118 c119 c120 c121 c122 c123 c124 c125 c126 c127 c128 c129 c130 c131 c132 c133 c134 c135 c136 c137 c138 c139 c140 c141 c142 c143 c144 c145 c146 c147 c148 c149 c150 c151 c152 c153 c154 c155 c156 c157 c158 c159 c160 c161 c162 c163 c164 c165 c166 c167 c168 c169 c170 c171 c172 c173 c174 c175 c176 c177 c178 c179 c180 c181 c182 c183 c184 c185 c186 c187 : Value}
    (hret : ∀ (d0 d1 d2 d8 d9 d10 d11 d12 d13 d14 d15 d16 d17 d18 d19 d20 d21 d22 d23 d24 d25 d26 d27 d28 d29 d30 d31 d32 d33 d34 d35 d36 d37 d38 d39 d40 d41 d42 d43 d44 d45 d46 d47 d48 d49 d50 d51 d52 d53 d54 d55 d56 d57 d58 d59 d60 d61 d62 d63 d64 d65 d66 d67 d68 d69 d70 d71 d72 d73 d74 d75 d76 d77 d78 d79 d80 d81 d82 d83 d84 d85 d86 d87 d88 d89 d90 d91 d92 d93 d94 d95 d96 d97 d98 d99 d100 d101 d102 d103 d104 d105 d106 d107 d108 d109 d110 d111 d112 d113 d114 d115 d116 d117 d118 d119 d120 d121 d122 d123 d124 d125 d126 d127 d128 d129 d130 d131 d132 d133 d134 d135 d136 d137 d138 d139 d140 d141 d142 d143 d144 d145 d146 d147 d148 d149 d150 d151 d152 d153 d154 d155 d156 d157 d158 d159 d160 d161 d162 d163 d164 d165 d166 d167 d168 d169 d170 d171 d172 d173 d174 d175 d176 d177 d178 d179 d180 d181 d182 d183 d184 d185 d186 d187 : Value) (q : Option Addr) (cap0 : Nat) (w0 : World), w0.cell? ⟨b + 3, 0, none⟩ = some (.int .i64 most) → w0.cell? ⟨b + 3, 1, none⟩ = some (.slice q R.length cap0) → R.length ≤ cap0 → KpL w0 q R → (q = p ∧ R = l ∨ ∀ g off, q = some ⟨g, off, none⟩ → w.heap.size ≤ g) → Below w.heap.size w w0 → Q .ret ⟨List.toArray (d0 :: d1 :: d2 :: .pointer (some ⟨b, 0, none⟩) :: .pointer (some ⟨b + 1, 0, none⟩) :: .pointer (some ⟨b + 2, 0, none⟩) :: .pointer (some ⟨b + 3, 0, none⟩) :: .int .i64 V :: d8 :: d9 :: d10 :: d11 :: d12 :: d13 :: d14 :: d15 :: d16 :: d17 :: d18 :: d19 :: d20 :: d21 :: d22 :: d23 :: d24 :: d25 :: d26 :: d27 :: d28 :: d29 :: d30 :: d31 :: d32 :: d33 :: d34 :: d35 :: d36 :: d37 :: d38 :: d39 :: d40 :: d41 :: d42 :: d43 :: d44 :: d45 :: d46 :: d47 :: d48 :: d49 :: d50 :: d51 :: d52 :: d53 :: d54 :: d55 :: d56 :: d57 :: d58 :: d59 :: d60 :: d61 :: d62 :: d63 :: d64 :: d65 :: d66 :: d67 :: d68 :: d69 :: d70 :: d71 :: d72 :: d73 :: d74 :: d75 :: d76 :: d77 :: d78 :: d79 :: d80 :: d81 :: d82 :: d83 :: d84 :: d85 :: d86 :: d87 :: d88 :: d89 :: d90 :: d91 :: d92 :: d93 :: d94 :: d95 :: d96 :: d97 :: d98 :: d99 :: d100 :: d101 :: d102 :: d103 :: d104 :: d105 :: d106 :: d107 :: d108 :: d109 :: d110 :: d111 :: d112 :: d113 :: d114 :: d115 :: d116 :: d117 :: d118 :: d119 :: d120 :: d121 :: d122 :: d123 :: d124 :: d125 :: d126 :: d127 :: d128 :: d129 :: d130 :: d131 :: d132 :: d133 :: d134 :: d135 :: d136 :: d137 :: d138 :: d139 :: d140 :: d141 :: d142 :: d143 :: d144 :: d145 :: d146 :: d147 :: d148 :: d149 :: d150 :: d151 :: d152 :: d153 :: d154 :: d155 :: d156 :: d157 :: d158 :: d159 :: d160 :: d161 :: d162 :: d163 :: d164 :: d165 :: d166 :: d167 :: d168 :: d169 :: d170 :: d171 :: d172 :: d173 :: d174 :: d175 :: d176 :: d177 :: d178 :: d179 :: d180 :: d181 :: d182 :: d183 :: d184 :: d185 :: d186 :: d187 :: []), []⟩ w0) :
    Code.wp Tryz.prog (seqHd (seqHd setFrom27)) (Exit.then K1 (Exit.then K2 Q)) ⟨List.toArray (c0 :: c1 :: c2 :: .pointer (some ⟨b, 0, none⟩) :: .pointer (some ⟨b + 1, 0, none⟩) :: .pointer (some ⟨b + 2, 0, none⟩) :: .pointer (some ⟨b + 3, 0, none⟩) :: c7 :: c8 :: .pointer (some ⟨m, 0, none⟩) :: .slice so l.length co :: .int .i64 (plc (nm, dom, kp) l l.length) :: c12 :: c13 :: c14 :: c15 :: c16 :: c17 :: c18 :: c19 :: c20 :: c21 :: c22 :: c23 :: c24 :: c25 :: c26 :: c27 :: c28 :: c29 :: c30 :: c31 :: c32 :: c33 :: c34 :: c35 :: c36 :: c37 :: c38 :: c39 :: c40 :: c41 :: c42 :: c43 :: c44 :: c45 :: c46 :: c47 :: c48 :: c49 :: c50 :: c51 :: c52 :: c53 :: c54 :: c55 :: c56 :: c57 :: c58 :: c59 :: c60 :: c61 :: c62 :: c63 :: c64 :: c65 :: c66 :: c67 :: c68 :: c69 :: c70 :: c71 :: c72 :: c73 :: c74 :: c75 :: c76 :: c77 :: c78 :: c79 :: c80 :: c81 :: c82 :: c83 :: c84 :: c85 :: c86 :: c87 :: c88 :: c89 :: c90 :: c91 :: c92 :: c93 :: c94 :: c95 :: c96 :: c97 :: c98 :: c99 :: c100 :: c101 :: c102 :: c103 :: c104 :: c105 :: c106 :: c107 :: c108 :: c109 :: c110 :: c111 :: c112 :: c113 :: c114 :: c115 :: c116 :: c117 :: c118 :: c119 :: c120 :: c121 :: c122 :: c123 :: c124 :: c125 :: c126 :: c127 :: c128 :: c129 :: c130 :: c131 :: c132 :: c133 :: c134 :: c135 :: c136 :: c137 :: c138 :: c139 :: c140 :: c141 :: c142 :: c143 :: c144 :: c145 :: c146 :: c147 :: c148 :: c149 :: c150 :: c151 :: c152 :: c153 :: c154 :: c155 :: c156 :: c157 :: c158 :: c159 :: c160 :: c161 :: c162 :: c163 :: c164 :: c165 :: c166 :: c167 :: c168 :: c169 :: c170 :: c171 :: c172 :: c173 :: c174 :: c175 :: c176 :: c177 :: c178 :: c179 :: c180 :: c181 :: c182 :: c183 :: c184 :: c185 :: c186 :: c187 :: []), []⟩ wq := by
  by_cases HA : 0 ≤ plc (nm, dom, kp) l l.length
  · by_cases HW : V = 0
    · exact rset_t27c hK1 hK2 hm1 hm2 hln HK HRR FW RQ KQ QQ GB (Lib.hid HA) (Lib.hid HW) hret
    · exact rset_t27b hK1 hln HCP HK HL SB HRR FW RQ KQ QQ (Lib.hid HA) (Lib.hid HW) hret
  · exact rset_t27a hK1 hK2 hm1 hm2 hln HRR FW RQ KQ QQ GB (Lib.hid (Int.not_le.mp HA)) hret
end Go.Proofs.YtkenianfpfamcaaGreatDoor
