/- The document's Set: where the cookie goes. -/
import Derived.Test.YtkenianfpfamcaaGreatDoorDocPdJ
namespace Go.Proofs.YtkenianfpfamcaaGreatDoor
open Go Go.RowKit
set_option maxHeartbeats 64000000

noncomputable def setFrom19 : Code := ((Tryz.f25.body.bind (fromReg 19)).getD .skip)
set_option maxRecDepth 100000 in
theorem rset_t19 {Q : Exit → Act → World → Prop} {K : Act → World → Prop} (hK : ∀ a w, Code.wp Tryz.prog (seqTl setFrom19) Q a w → K a w) {most b m cap : Nat} {p : Option Addr} {l R : List Kp} {V : Int} {host path : List UInt8} {sec : Bool} {now : Int} {w w6 : World} {nm v pp d : List UInt8} {ma : Int} {hm : Bool} {ex : Int} {he sc ht : Bool} {sm : Int} {dom kp : List UInt8} {till : Int} {ends : Bool}
    (hm1 : 1 ≤ most) (hm2 : most ≤ 3000) (hln : l.length ≤ 3000) (_HLM : Hid (l.length ≤ most)) (HCP : Hid (l.length ≤ cap)) (HK : Hid ((l.map Kp.key).Nodup)) (HL : Hid (KpL w p l)) (_HB4 : Hid (b + 4 ≤ m))
    (SB : Hid (V ≠ 0 → R = l)) (HRR : Hid (V = 0 → R = trimJ most now (putC l ⟨(⟨nm, v, pp, d, ma, hm, ex, he, sc, ht, sm⟩ : SetC), dom, kp, till, ends⟩)))
    (FW : Hid (V = match wasC l ⟨(⟨nm, v, pp, d, ma, hm, ex, he, sc, ht, sm⟩ : SetC), dom, kp, till, ends⟩ with | none => 0 | some y => if sec = false ∧ y.c.secure = true ∧ y.over now = false then 163 else 0))
    (R6 : Hid (Rs w b most p l.length cap (⟨nm, v, pp, d, ma, hm, ex, he, sc, ht, sm⟩ : SetC) host path sec now w6)) (KN6 : Hid (CellsAt w6 m (cellsP ⟨(⟨nm, v, pp, d, ma, hm, ex, he, sc, ht, sm⟩ : SetC), dom, kp, till, ends⟩)))
    {c0 c1 c2 c7 c8 c10 c11 c12 c13 c14 c15 c16 c17 c18 c19 c20 c21 c22 c23 c24 c25 c26 c27 c28 c29 c30 c31 c32 c33 c34 c35 c36 c37 c38 c39 c40 c41 c42 c43 c44 c45 c46 c47 c48 c49 c50 c51 c52 c53 c54 c55 c56 c57 c58 c59 c60 c61 c62 c63 c64 c65 c66 c67 c68 c69 c70 c71 c72 c73 c74 c75 c76 c77 c78 c79 c80 c81 c82 c83 c84 c85 c86 c87 c88 c89 c90 c91 c92 c93 c94 c95 c96 c97 c98 c99 c100 c101 c102 c103 c104 c105 c106 c107 c108 c109 c110 c111 c112 c113 c114 c115 c116 c117 c118 c119 c120 c121 c122 c123 c124 c125 c126 c127 c128 c129 c130 c131 c132 c133 c134 c135 c136 c137 c138 c139 c140 c141 c142 c143 c144 c145 c146 c147 c148 c149 c150 c151 c152 c153 c154 c155 c156 c157 c158 c159 c160 c161 c162 c163 c164 c165 c166 c167 c168 c169 c170 c171 c172 c173 c174 c175 c176 c177 c178 c179 c180 c181 c182 c183 c184 c185 c186 c187 : Value}
    (hret : ∀ (d0 d1 d2 d8 d9 d10 d11 d12 d13 d14 d15 d16 d17 d18 d19 d20 d21 d22 d23 d24 d25 d26 d27 d28 d29 d30 d31 d32 d33 d34 d35 d36 d37 d38 d39 d40 d41 d42 d43 d44 d45 d46 d47 d48 d49 d50 d51 d52 d53 d54 d55 d56 d57 d58 d59 d60 d61 d62 d63 d64 d65 d66 d67 d68 d69 d70 d71 d72 d73 d74 d75 d76 d77 d78 d79 d80 d81 d82 d83 d84 d85 d86 d87 d88 d89 d90 d91 d92 d93 d94 d95 d96 d97 d98 d99 d100 d101 d102 d103 d104 d105 d106 d107 d108 d109 d110 d111 d112 d113 d114 d115 d116 d117 d118 d119 d120 d121 d122 d123 d124 d125 d126 d127 d128 d129 d130 d131 d132 d133 d134 d135 d136 d137 d138 d139 d140 d141 d142 d143 d144 d145 d146 d147 d148 d149 d150 d151 d152 d153 d154 d155 d156 d157 d158 d159 d160 d161 d162 d163 d164 d165 d166 d167 d168 d169 d170 d171 d172 d173 d174 d175 d176 d177 d178 d179 d180 d181 d182 d183 d184 d185 d186 d187 : Value) (q : Option Addr) (cap0 : Nat) (w0 : World), w0.cell? ⟨b + 3, 0, none⟩ = some (.int .i64 most) → w0.cell? ⟨b + 3, 1, none⟩ = some (.slice q R.length cap0) → R.length ≤ cap0 → KpL w0 q R → (q = p ∧ R = l ∨ ∀ g off, q = some ⟨g, off, none⟩ → w.heap.size ≤ g) → Below w.heap.size w w0 → Q .ret ⟨List.toArray (d0 :: d1 :: d2 :: .pointer (some ⟨b, 0, none⟩) :: .pointer (some ⟨b + 1, 0, none⟩) :: .pointer (some ⟨b + 2, 0, none⟩) :: .pointer (some ⟨b + 3, 0, none⟩) :: .int .i64 V :: d8 :: d9 :: d10 :: d11 :: d12 :: d13 :: d14 :: d15 :: d16 :: d17 :: d18 :: d19 :: d20 :: d21 :: d22 :: d23 :: d24 :: d25 :: d26 :: d27 :: d28 :: d29 :: d30 :: d31 :: d32 :: d33 :: d34 :: d35 :: d36 :: d37 :: d38 :: d39 :: d40 :: d41 :: d42 :: d43 :: d44 :: d45 :: d46 :: d47 :: d48 :: d49 :: d50 :: d51 :: d52 :: d53 :: d54 :: d55 :: d56 :: d57 :: d58 :: d59 :: d60 :: d61 :: d62 :: d63 :: d64 :: d65 :: d66 :: d67 :: d68 :: d69 :: d70 :: d71 :: d72 :: d73 :: d74 :: d75 :: d76 :: d77 :: d78 :: d79 :: d80 :: d81 :: d82 :: d83 :: d84 :: d85 :: d86 :: d87 :: d88 :: d89 :: d90 :: d91 :: d92 :: d93 :: d94 :: d95 :: d96 :: d97 :: d98 :: d99 :: d100 :: d101 :: d102 :: d103 :: d104 :: d105 :: d106 :: d107 :: d108 :: d109 :: d110 :: d111 :: d112 :: d113 :: d114 :: d115 :: d116 :: d117 :: d118 :: d119 :: d120 :: d121 :: d122 :: d123 :: d124 :: d125 :: d126 :: d127 :: d128 :: d129 :: d130 :: d131 :: d132 :: d133 :: d134 :: d135 :: d136 :: d137 :: d138 :: d139 :: d140 :: d141 :: d142 :: d143 :: d144 :: d145 :: d146 :: d147 :: d148 :: d149 :: d150 :: d151 :: d152 :: d153 :: d154 :: d155 :: d156 :: d157 :: d158 :: d159 :: d160 :: d161 :: d162 :: d163 :: d164 :: d165 :: d166 :: d167 :: d168 :: d169 :: d170 :: d171 :: d172 :: d173 :: d174 :: d175 :: d176 :: d177 :: d178 :: d179 :: d180 :: d181 :: d182 :: d183 :: d184 :: d185 :: d186 :: d187 :: []), []⟩ w0) :
    Code.wp Tryz.prog (seqHd setFrom19) (Exit.then K Q) ⟨List.toArray (c0 :: c1 :: c2 :: .pointer (some ⟨b, 0, none⟩) :: .pointer (some ⟨b + 1, 0, none⟩) :: .pointer (some ⟨b + 2, 0, none⟩) :: .pointer (some ⟨b + 3, 0, none⟩) :: c7 :: c8 :: .pointer (some ⟨m, 0, none⟩) :: c10 :: c11 :: c12 :: c13 :: c14 :: c15 :: c16 :: c17 :: c18 :: c19 :: c20 :: c21 :: c22 :: c23 :: c24 :: c25 :: c26 :: c27 :: c28 :: c29 :: c30 :: c31 :: c32 :: c33 :: c34 :: c35 :: c36 :: c37 :: c38 :: c39 :: c40 :: c41 :: c42 :: c43 :: c44 :: c45 :: c46 :: c47 :: c48 :: c49 :: c50 :: c51 :: c52 :: c53 :: c54 :: c55 :: c56 :: c57 :: c58 :: c59 :: c60 :: c61 :: c62 :: c63 :: c64 :: c65 :: c66 :: c67 :: c68 :: c69 :: c70 :: c71 :: c72 :: c73 :: c74 :: c75 :: c76 :: c77 :: c78 :: c79 :: c80 :: c81 :: c82 :: c83 :: c84 :: c85 :: c86 :: c87 :: c88 :: c89 :: c90 :: c91 :: c92 :: c93 :: c94 :: c95 :: c96 :: c97 :: c98 :: c99 :: c100 :: c101 :: c102 :: c103 :: c104 :: c105 :: c106 :: c107 :: c108 :: c109 :: c110 :: c111 :: c112 :: c113 :: c114 :: c115 :: c116 :: c117 :: c118 :: c119 :: c120 :: c121 :: c122 :: c123 :: c124 :: c125 :: c126 :: c127 :: c128 :: c129 :: c130 :: c131 :: c132 :: c133 :: c134 :: c135 :: c136 :: c137 :: c138 :: c139 :: c140 :: c141 :: c142 :: c143 :: c144 :: c145 :: c146 :: c147 :: c148 :: c149 :: c150 :: c151 :: c152 :: c153 :: c154 :: c155 :: c156 :: c157 :: c158 :: c159 :: c160 :: c161 :: c162 :: c163 :: c164 :: c165 :: c166 :: c167 :: c168 :: c169 :: c170 :: c171 :: c172 :: c173 :: c174 :: c175 :: c176 :: c177 :: c178 :: c179 :: c180 :: c181 :: c182 :: c183 :: c184 :: c185 :: c186 :: c187 :: []), []⟩ w6 := by
  obtain ⟨i1, ci, cz0, cz1, cz2⟩ := info_parts infoKp
  have F0 : (w6.alloc (.cells #[] tKp)).ownsRow w6.heap.size tKp 15 (.slice (some ⟨w6.heap.size, 0, none⟩) 0 0) 0 [] := World.ownsRow_lit w6 #[] 0 (Nat.le_refl _) (by unfold maxLen; omega) rfl
  have A1 := (Below.refl w6.heap.size w6).alloc (Nat.le_refl _) (.cells #[] tKp)
  have L6 := Lib.hid (HL.out.next (R6.out.bl.trans (A1.mono R6.out.bl.size)))
  have j1 := R6.out.kj.at 1 _ rfl
  have j1b := (R6.out.next A1).kj.at 1 _ rfl
  have hA := A1.size
  conv => arg 2; whnf
  go_wp2_with (at_builtin; refine append_lies cellsP_len cellsP_one (by decide) rfl _ _ 55 rfl tKp i1 (.agg #[.string ⟨#[]⟩, .string ⟨#[]⟩, .string ⟨#[]⟩, .string ⟨#[]⟩, .int .i64 0, .bool false, .int .i64 0, .bool false, .bool false, .bool false, .int .i64 0, .string ⟨#[]⟩, .string ⟨#[]⟩, .int .i64 0, .bool false]) Tryz.underlying55 ci cz0 cz1 cz2 rfl (by decide) rfl F0 L6.out rfl (by omega) hA ?_)
  intro v7 w7 hown7 hb7
  have R7 := Lib.hid (R6.out.next (A1.trans hb7))
  have KN7 := Lib.hid (KN6.out.next (A1.trans hb7))
  have GB : Hid (b + 4 ≤ w6.heap.size ∧ m < w6.heap.size ∧ w6.heap.size ≤ w7.heap.size) := ⟨by have := R6.out.kr.lt; omega, KN6.out.lt, (A1.trans hb7).size⟩
  obtain ⟨B6, hB6⟩ := name_it w6.heap.size
  rw [hB6.out] at hown7 GB
  obtain ⟨so, co, hv7⟩ := row_slice hown7
  subst hv7
  have Q7 := Lib.hid hown7
  clear F0 A1 L6 j1 j1b hA hown7 hb7 R6 KN6 hB6
  go_wp2_with fail
  conv => arg 2; whnf
  go_wp2_with fail
  go_loopw [11, 12, 13, 100] (fun pl _ _ i wr => ∃ k : Nat, k ≤ l.length ∧ i = .int .i64 k ∧ pl = .int .i64 (plc (nm, dom, kp) l k) ∧ Hid (Below w7.heap.size w7 wr)) (fun _ _ _ i _ => l.length - (intOf i).toNat)
  case atStart => exact ⟨0, Nat.zero_le _, rfl, rfl, Below.refl _ _⟩
  case round =>
  obtain ⟨k, hk, rfl, rfl, hB⟩ := hrel
  obtain ⟨wq, hwq⟩ : ∃ wq, wq = wr := ⟨wr, rfl⟩
  subst hwq
  have RQ := Lib.hid (R7.out.next hB.out)
  have KQ := Lib.hid (KN7.out.next hB.out)
  have QQ := Lib.hid (row_kept Q7.out (w' := wq) (fun g hg => hB.out.block g (World.ownsRow.lt Q7.out g hg).2))
  by_cases hlt : k < l.length
  ·
    obtain ⟨g, rfl, hg⟩ := row_zero QQ.out (by omega)
    have PS := Lib.hid (plc_succ (K := (nm, dom, kp)) hlt)
    have hc := fun j hj v hv => row_cell cellsP_len QQ.out k hlt j hj v hv
    have PB := plc_le (nm, dom, kp) l k hk
    have HKI := Lib.hid (key_iff l[k] nm dom kp)
    obtain ⟨x, hx⟩ := name_it l[k]
    rw [hx.out] at hc PS HKI
    obtain ⟨P0, hP0⟩ := name_it (plc (nm, dom, kp) l k)
    rw [hP0.out] at PS PB ⊢
    clear hx hP0 FW
    obtain ⟨⟨ynm, yv, yp, yd, yma, yhm, yex, yhe, ysc, yht, ysm⟩, ydom, ypath, ytill, yends⟩ := x
    have z0 : wq.cell? ⟨g, k * 15, none⟩ = some (.string (bs ynm)) := hc 0 (by decide) _ rfl
    have z1 : wq.cell? ⟨g, k * 15 + 1, none⟩ = some (.string (bs yv)) := hc 1 (by decide) _ rfl
    have z2 : wq.cell? ⟨g, k * 15 + 2, none⟩ = some (.string (bs yp)) := hc 2 (by decide) _ rfl
    have z3 : wq.cell? ⟨g, k * 15 + 3, none⟩ = some (.string (bs yd)) := hc 3 (by decide) _ rfl
    have z4 : wq.cell? ⟨g, k * 15 + 4, none⟩ = some (.int .i64 yma) := hc 4 (by decide) _ rfl
    have z5 : wq.cell? ⟨g, k * 15 + 5, none⟩ = some (.bool yhm) := hc 5 (by decide) _ rfl
    have z6 : wq.cell? ⟨g, k * 15 + 6, none⟩ = some (.int .i64 yex) := hc 6 (by decide) _ rfl
    have z7 : wq.cell? ⟨g, k * 15 + 7, none⟩ = some (.bool yhe) := hc 7 (by decide) _ rfl
    have z8 : wq.cell? ⟨g, k * 15 + 8, none⟩ = some (.bool ysc) := hc 8 (by decide) _ rfl
    have z9 : wq.cell? ⟨g, k * 15 + 9, none⟩ = some (.bool yht) := hc 9 (by decide) _ rfl
    have z10 : wq.cell? ⟨g, k * 15 + 10, none⟩ = some (.int .i64 ysm) := hc 10 (by decide) _ rfl
    have z11 : wq.cell? ⟨g, k * 15 + 11, none⟩ = some (.string (bs ydom)) := hc 11 (by decide) _ rfl
    have z12 : wq.cell? ⟨g, k * 15 + 12, none⟩ = some (.string (bs ypath)) := hc 12 (by decide) _ rfl
    have z13 : wq.cell? ⟨g, k * 15 + 13, none⟩ = some (.int .i64 ytill) := hc 13 (by decide) _ rfl
    have z14 : wq.cell? ⟨g, k * 15 + 14, none⟩ = some (.bool yends) := hc 14 (by decide) _ rfl
    clear hc
    go_upto_region 24 with fail
    all_goals (try (exfalso; omega))
    have KC := Lib.hid (CellsAt.first wq [.string (bs ynm), .string (bs yv), .string (bs yp), .string (bs yd), .int .i64 yma, .bool yhm, .int .i64 yex, .bool yhe, .bool ysc, .bool yht, .int .i64 ysm, .string (bs ydom), .string (bs ypath), .int .i64 ytill, .bool yends] tKp)
    have bb := Lib.hid (below_put2 (w := wq) (cs := #[.string (bs ynm), .string (bs yv), .string (bs yp), .string (bs yd), .int .i64 yma, .bool yhm, .int .i64 yex, .bool yhe, .bool ysc, .bool yht, .int .i64 ysm, .string (bs ydom), .string (bs ypath), .int .i64 ytill, .bool yends]) (T := tKp))
    have RA := Lib.hid (RQ.out.next bb.out)
    have KA := Lib.hid (KQ.out.next bb.out)
    have BA := Lib.hid (hB.out.trans (bb.out.mono hB.out.size))
    clear bb z0 z1 z2 z3 z4 z5 z6 z7 z8 z9 z10 z11 z12 z13 z14
    obtain ⟨m8, hm8⟩ := name_it wq.heap.size
    rw [hm8.out] at KC ⊢
    clear hm8
    generalize wq.alloc _ = w8 at KC RA KA BA ⊢
    have c0 : w8.cell? ⟨m8, 0, none⟩ = some (.string (bs ynm)) := KC.out.at 0 _ rfl
    have c11 : w8.cell? ⟨m8, 11, none⟩ = some (.string (bs ydom)) := KC.out.at 11 _ rfl
    have c12 : w8.cell? ⟨m8, 12, none⟩ = some (.string (bs ypath)) := KC.out.at 12 _ rfl
    have d0 : w8.cell? ⟨b + 1, 0, none⟩ = some (.string (bs nm)) := RA.out.kc.at 0 _ rfl
    have k11 : w8.cell? ⟨m, 11, none⟩ = some (.string (bs dom)) := KA.out.at 11 _ rfl
    have k12 : w8.cell? ⟨m, 12, none⟩ = some (.string (bs kp)) := KA.out.at 12 _ rfl
    have HQ3 : Hid ((((bs ynm).toList == (bs nm).toList) && (((bs ydom).toList == (bs dom).toList) && ((bs ypath).toList == (bs kp).toList))) = decide (Kp.key ⟨⟨ynm, yv, yp, yd, yma, yhm, yex, yhe, ysc, yht, ysm⟩, ydom, ypath, ytill, yends⟩ = (nm, dom, kp))) := by
      unfold Hid
      rw [Bool.eq_iff_iff]
      simp only [Bool.and_eq_true, beq_iff_eq, decide_eq_true_eq, toList_iff]
      exact HKI.out.symm
    obtain ⟨q1, e1⟩ : ∃ q, ((bs ynm).toList == (bs nm).toList) = q := ⟨_, rfl⟩
    obtain ⟨q2, e2⟩ : ∃ q, ((bs ydom).toList == (bs dom).toList) = q := ⟨_, rfl⟩
    obtain ⟨q3, e3⟩ : ∃ q, ((bs ypath).toList == (bs kp).toList) = q := ⟨_, rfl⟩
    rw [e1, e2, e3] at HQ3
    clear HKI KC
    go_cut [124] from 101 to 126 (fun t wx => t = .bool (q1 && (q2 && q3)) ∧ wx = w8)
    case first =>
      clear HQ3 PS
      cases q1 <;> cases q2 <;> cases q3
      all_goals
        go_wp2_with fail
        go_meet
        case rel => exact ⟨by simp, rfl⟩
    case rest =>
    obtain ⟨rfl, hwc⟩ := hcut
    rw [hwc]
    clear hwc e1 e2 e3 c0 c11 c12 d0 k11 k12
    cases hT : (q1 && (q2 && q3)) with
    | true =>
      have PT : Hid (plc (nm, dom, kp) l (k + 1) = (k : Int)) := by
        unfold Hid; rw [PS.out, if_pos (of_decide_eq_true (by rw [← HQ3.out, hT]))]
      clear hT HQ3 PS
      go_wp2_with fail
      go_roundw
      case rel => exact ⟨k + 1, by omega, by go_num, by rw [PT.out], BA⟩
      case measure => simp [intOf]; omega
    | false =>
      have PT : Hid (plc (nm, dom, kp) l (k + 1) = P0) := by
        unfold Hid; rw [PS.out, if_neg (of_decide_eq_false (by rw [← HQ3.out, hT]))]
      clear hT HQ3 PS
      go_wp2_with fail
      go_roundw
      case rel => exact ⟨k + 1, by omega, by go_num, by rw [PT.out], BA⟩
      case measure => simp [intOf]; omega
  · obtain rfl : k = l.length := by omega
    go_upto_region 27 with fail
    all_goals (try (exfalso; omega))
    refine rset_t27 ?hK1 ?hK2 hm1 hm2 hln HCP HK HL SB HRR FW RQ KQ QQ (show Hid _ from ⟨GB.out.1, GB.out.2.1, Nat.le_trans GB.out.2.2 hB.out.size⟩) hret
    case hK1 => assumption
    case hK2 => assumption
end Go.Proofs.YtkenianfpfamcaaGreatDoor
