/- The document's Set: when it is over, and where it goes. -/
import Derived.Test.YtkenianfpfamcaaGreatDoorDocPbJ
namespace Go.Proofs.YtkenianfpfamcaaGreatDoor
open Go Go.RowKit
set_option maxHeartbeats 64000000

noncomputable def setFrom13 : Code := ((Tryz.f25.body.bind (fromReg 13)).getD .skip)
set_option maxRecDepth 100000 in
theorem rset_t13 {Q : Exit → Act → World → Prop} {K1 K2 : Act → World → Prop} (hK1 : ∀ a w, Code.wp Tryz.prog (seqTl (seqHd setFrom13)) (Exit.then K2 Q) a w → K1 a w) (hK2 : ∀ a w, Code.wp Tryz.prog (seqTl setFrom13) Q a w → K2 a w) {most b m cap : Nat} {p : Option Addr} {l R : List Kp} {V : Int} {host path : List UInt8} {sec : Bool} {now : Int} {w w5 : World} {nm v pp d : List UInt8} {ma : Int} {hm : Bool} {ex : Int} {he sc ht : Bool} {sm : Int} {dom kp : List UInt8}
    (hm1 : 1 ≤ most) (hm2 : most ≤ 3000) (HLM : Hid (l.length ≤ most)) (HCP : Hid (l.length ≤ cap)) (HK : Hid ((l.map Kp.key).Nodup)) (HL : Hid (KpL w p l)) (HB4 : Hid (b + 4 ≤ m))
    (hmo : isMom now = true) (hw0 : wrongC (⟨nm, v, pp, d, ma, hm, ex, he, sc, ht, sm⟩ : SetC) = 0) (hfo : ¬ (d ≠ [] ∧ belongsC host d = false)) (HDM : Hid ((if d = [] then host else d) = dom)) (HKP : Hid ((if pp = [] then defPathC path else pp) = kp))
    (HV : Hid (failC l (⟨nm, v, pp, d, ma, hm, ex, he, sc, ht, sm⟩ : SetC) host path sec now = V)) (HRR : Hid (setJ most l (⟨nm, v, pp, d, ma, hm, ex, he, sc, ht, sm⟩ : SetC) host path sec now = R)) (SB : Hid (V ≠ 0 → R = l))
    (R5 : Hid (Rs w b most p l.length cap (⟨nm, v, pp, d, ma, hm, ex, he, sc, ht, sm⟩ : SetC) host path sec now w5)) (KN5 : Hid (CellsAt w5 m (cellsP ⟨(⟨nm, v, pp, d, ma, hm, ex, he, sc, ht, sm⟩ : SetC), dom, kp, 0, false⟩)))
    {c0 c1 c2 c7 c8 c10 c11 c12 c13 c14 c15 c16 c17 c18 c19 c20 c21 c22 c23 c24 c25 c26 c27 c28 c29 c30 c31 c32 c33 c34 c35 c36 c37 c38 c39 c40 c41 c42 c43 c44 c45 c46 c47 c48 c49 c50 c51 c52 c53 c54 c55 c56 c57 c58 c59 c60 c61 c62 c63 c64 c65 c66 c67 c68 c69 c70 c71 c72 c73 c74 c75 c76 c77 c78 c79 c80 c81 c82 c83 c84 c85 c86 c87 c88 c89 c90 c91 c92 c93 c94 c95 c96 c97 c98 c99 c100 c101 c102 c103 c104 c105 c106 c107 c108 c109 c110 c111 c112 c113 c114 c115 c116 c117 c118 c119 c120 c121 c122 c123 c124 c125 c126 c127 c128 c129 c130 c131 c132 c133 c134 c135 c136 c137 c138 c139 c140 c141 c142 c143 c144 c145 c146 c147 c148 c149 c150 c151 c152 c153 c154 c155 c156 c157 c158 c159 c160 c161 c162 c163 c164 c165 c166 c167 c168 c169 c170 c171 c172 c173 c174 c175 c176 c177 c178 c179 c180 c181 c182 c183 c184 c185 c186 c187 : Value}
    (hret : ∀ (d0 d1 d2 d8 d9 d10 d11 d12 d13 d14 d15 d16 d17 d18 d19 d20 d21 d22 d23 d24 d25 d26 d27 d28 d29 d30 d31 d32 d33 d34 d35 d36 d37 d38 d39 d40 d41 d42 d43 d44 d45 d46 d47 d48 d49 d50 d51 d52 d53 d54 d55 d56 d57 d58 d59 d60 d61 d62 d63 d64 d65 d66 d67 d68 d69 d70 d71 d72 d73 d74 d75 d76 d77 d78 d79 d80 d81 d82 d83 d84 d85 d86 d87 d88 d89 d90 d91 d92 d93 d94 d95 d96 d97 d98 d99 d100 d101 d102 d103 d104 d105 d106 d107 d108 d109 d110 d111 d112 d113 d114 d115 d116 d117 d118 d119 d120 d121 d122 d123 d124 d125 d126 d127 d128 d129 d130 d131 d132 d133 d134 d135 d136 d137 d138 d139 d140 d141 d142 d143 d144 d145 d146 d147 d148 d149 d150 d151 d152 d153 d154 d155 d156 d157 d158 d159 d160 d161 d162 d163 d164 d165 d166 d167 d168 d169 d170 d171 d172 d173 d174 d175 d176 d177 d178 d179 d180 d181 d182 d183 d184 d185 d186 d187 : Value) (q : Option Addr) (cap0 : Nat) (w0 : World), w0.cell? ⟨b + 3, 0, none⟩ = some (.int .i64 most) → w0.cell? ⟨b + 3, 1, none⟩ = some (.slice q R.length cap0) → R.length ≤ cap0 → KpL w0 q R → (q = p ∧ R = l ∨ ∀ g off, q = some ⟨g, off, none⟩ → w.heap.size ≤ g) → Below w.heap.size w w0 → Q .ret ⟨List.toArray (d0 :: d1 :: d2 :: .pointer (some ⟨b, 0, none⟩) :: .pointer (some ⟨b + 1, 0, none⟩) :: .pointer (some ⟨b + 2, 0, none⟩) :: .pointer (some ⟨b + 3, 0, none⟩) :: .int .i64 V :: d8 :: d9 :: d10 :: d11 :: d12 :: d13 :: d14 :: d15 :: d16 :: d17 :: d18 :: d19 :: d20 :: d21 :: d22 :: d23 :: d24 :: d25 :: d26 :: d27 :: d28 :: d29 :: d30 :: d31 :: d32 :: d33 :: d34 :: d35 :: d36 :: d37 :: d38 :: d39 :: d40 :: d41 :: d42 :: d43 :: d44 :: d45 :: d46 :: d47 :: d48 :: d49 :: d50 :: d51 :: d52 :: d53 :: d54 :: d55 :: d56 :: d57 :: d58 :: d59 :: d60 :: d61 :: d62 :: d63 :: d64 :: d65 :: d66 :: d67 :: d68 :: d69 :: d70 :: d71 :: d72 :: d73 :: d74 :: d75 :: d76 :: d77 :: d78 :: d79 :: d80 :: d81 :: d82 :: d83 :: d84 :: d85 :: d86 :: d87 :: d88 :: d89 :: d90 :: d91 :: d92 :: d93 :: d94 :: d95 :: d96 :: d97 :: d98 :: d99 :: d100 :: d101 :: d102 :: d103 :: d104 :: d105 :: d106 :: d107 :: d108 :: d109 :: d110 :: d111 :: d112 :: d113 :: d114 :: d115 :: d116 :: d117 :: d118 :: d119 :: d120 :: d121 :: d122 :: d123 :: d124 :: d125 :: d126 :: d127 :: d128 :: d129 :: d130 :: d131 :: d132 :: d133 :: d134 :: d135 :: d136 :: d137 :: d138 :: d139 :: d140 :: d141 :: d142 :: d143 :: d144 :: d145 :: d146 :: d147 :: d148 :: d149 :: d150 :: d151 :: d152 :: d153 :: d154 :: d155 :: d156 :: d157 :: d158 :: d159 :: d160 :: d161 :: d162 :: d163 :: d164 :: d165 :: d166 :: d167 :: d168 :: d169 :: d170 :: d171 :: d172 :: d173 :: d174 :: d175 :: d176 :: d177 :: d178 :: d179 :: d180 :: d181 :: d182 :: d183 :: d184 :: d185 :: d186 :: d187 :: []), []⟩ w0) :
    Code.wp Tryz.prog (seqHd (seqHd setFrom13)) (Exit.then K1 (Exit.then K2 Q)) ⟨List.toArray (c0 :: c1 :: c2 :: .pointer (some ⟨b, 0, none⟩) :: .pointer (some ⟨b + 1, 0, none⟩) :: .pointer (some ⟨b + 2, 0, none⟩) :: .pointer (some ⟨b + 3, 0, none⟩) :: c7 :: c8 :: .pointer (some ⟨m, 0, none⟩) :: c10 :: c11 :: c12 :: c13 :: c14 :: c15 :: c16 :: c17 :: c18 :: c19 :: c20 :: c21 :: c22 :: c23 :: c24 :: c25 :: c26 :: c27 :: c28 :: c29 :: c30 :: c31 :: c32 :: c33 :: c34 :: c35 :: c36 :: c37 :: c38 :: c39 :: c40 :: c41 :: c42 :: c43 :: c44 :: c45 :: c46 :: c47 :: c48 :: c49 :: c50 :: c51 :: c52 :: c53 :: c54 :: c55 :: c56 :: c57 :: c58 :: c59 :: c60 :: c61 :: c62 :: c63 :: c64 :: c65 :: c66 :: c67 :: c68 :: c69 :: c70 :: c71 :: c72 :: c73 :: c74 :: c75 :: c76 :: c77 :: c78 :: c79 :: c80 :: c81 :: c82 :: c83 :: c84 :: c85 :: c86 :: c87 :: c88 :: c89 :: c90 :: c91 :: c92 :: c93 :: c94 :: c95 :: c96 :: c97 :: c98 :: c99 :: c100 :: c101 :: c102 :: c103 :: c104 :: c105 :: c106 :: c107 :: c108 :: c109 :: c110 :: c111 :: c112 :: c113 :: c114 :: c115 :: c116 :: c117 :: c118 :: c119 :: c120 :: c121 :: c122 :: c123 :: c124 :: c125 :: c126 :: c127 :: c128 :: c129 :: c130 :: c131 :: c132 :: c133 :: c134 :: c135 :: c136 :: c137 :: c138 :: c139 :: c140 :: c141 :: c142 :: c143 :: c144 :: c145 :: c146 :: c147 :: c148 :: c149 :: c150 :: c151 :: c152 :: c153 :: c154 :: c155 :: c156 :: c157 :: c158 :: c159 :: c160 :: c161 :: c162 :: c163 :: c164 :: c165 :: c166 :: c167 :: c168 :: c169 :: c170 :: c171 :: c172 :: c173 :: c174 :: c175 :: c176 :: c177 :: c178 :: c179 :: c180 :: c181 :: c182 :: c183 :: c184 :: c185 :: c186 :: c187 :: []), []⟩ w5 := by
  have hlm := HLM.out
  have WP := wrong_parts hw0
  have d8 : w5.cell? ⟨b + 1, 8, none⟩ = some (.bool sc) := R5.out.kc.at 8 _ rfl
  have d10 : w5.cell? ⟨b + 1, 10, none⟩ = some (.int .i64 sm) := R5.out.kc.at 10 _ rfl
  have x2 : w5.cell? ⟨b + 2, 2, none⟩ = some (.bool sec) := R5.out.kx.at 2 _ rfl
  have q3e : (sm == 3) = decide (sm = 3) := by rw [Bool.eq_iff_iff]; simp
  have HU : Hid (unsafe1 (⟨nm, v, pp, d, ma, hm, ex, he, sc, ht, sm⟩ : SetC) sec = ((!sec && (sc || decide (sm = 3))) || (decide (sm = 3) && !sc))) := rfl
  conv => arg 2; whnf
  go_cut [77] from 14 (fun t wx => t = .bool ((!sec && (sc || decide (sm = 3))) || (decide (sm = 3) && !sc)) ∧ wx = w5)
  case first =>
    clear HU hfo
    by_cases hq : sm = 3
    · have q3 : (sm == 3) = true := by rw [q3e]; exact decide_eq_true hq
      have HQ := Lib.hid hq
      clear hq q3e
      cases sc <;> cases sec
      all_goals
        go_wp2_with fail
        go_meet
        case rel => exact ⟨by simp [HQ.out], rfl⟩
    · have q3 : (sm == 3) = false := by rw [q3e]; exact decide_eq_false hq
      have HQ := Lib.hid hq
      clear hq q3e
      cases sc <;> cases sec
      all_goals
        go_wp2_with fail
        go_meet
        case rel => exact ⟨by simp [HQ.out], rfl⟩
  case rest =>
  obtain ⟨rfl, hwc⟩ := hcut
  rw [hwc]
  clear hwc q3e d8 d10 x2
  go_wp2_with fail
  conv => arg 2; whnf
  cases hu : ((!sec && (sc || decide (sm = 3))) || (decide (sm = 3) && !sc)) with
  | true =>
    have HV2 : Hid (V = 163) := by rw [← HV.out]; exact fail_unsafe hmo hw0 hfo (by rw [HU.out]; exact hu)
    have HR2 : Hid (R = l) := SB.out (by rw [HV2.out]; decide)
    clear hfo hmo hw0 KN5 hu HU
    have j0 := R5.out.kj.at 0 _ rfl
    have j1 := R5.out.kj.at 1 _ rfl
    have z0 := R5.out.kr.at 0 _ rfl
    have z1 := R5.out.kr.at 1 _ rfl
    have y0 := R5.out.kr.free 0
    have y1 := R5.out.kr.free 1
    obtain ⟨KE0, DE0⟩ := R5.out.ret
    have KE := Lib.hid KE0
    have DE := Lib.hid DE0
    clear KE0 DE0
    unfold putAll putAll putAll at KE DE
    have f0 := KE.out.at 0 _ rfl
    have f1 := KE.out.at 1 _ rfl
    simp only [Nat.zero_add] at DE f0 f1
    have LL := Lib.hid (HL.out.next DE.out)
    have HRT9 := Lib.hid hret
    clear hret
    have hv9 : V = 163 := HV2.out
    have hr9 : R = l := HR2.out
    clear HV2 HR2 SB HRR HV
    subst hv9
    subst hr9
    go_wp2_with fail
    exact HRT9.out _ _ _ _ _ _ _ _ _ _ _ _ _ _ _ _ _ _ _ _ _ _ _ _ _ _ _ _ _ _ _ _ _ _ _ _ _ _ _ _ _ _ _ _ _ _ _ _ _ _ _ _ _ _ _ _ _ _ _ _ _ _ _ _ _ _ _ _ _ _ _ _ _ _ _ _ _ _ _ _ _ _ _ _ _ _ _ _ _ _ _ _ _ _ _ _ _ _ _ _ _ _ _ _ _ _ _ _ _ _ _ _ _ _ _ _ _ _ _ _ _ _ _ _ _ _ _ _ _ _ _ _ _ _ _ _ _ _ _ _ _ _ _ _ _ _ _ _ _ _ _ _ _ _ _ _ _ _ _ _ _ _ _ _ _ _ _ _ _ _ _ _ _ _ _ _ _ _ _ _ _ _ _ p cap _ f0 f1 HCP.out LL.out (Or.inl ⟨rfl, by trivial⟩) DE.out
  | false =>
    have FW := Lib.hid (fail_was (l := l) (path := path) hmo hw0 hfo (by rw [HU.out]; exact hu))
    have MB := mom_bounds hmo
    have AB := right_age hw0
    simp only at AB
    have hr1 : IntKind.i64.wrap (now + ma) = now + ma := IntWalk.i64_in _ (by omega)
    clear hu HU hfo hmo hw0 WP
    have d4 : w5.cell? ⟨b + 1, 4, none⟩ = some (.int .i64 ma) := R5.out.kc.at 4 _ rfl
    have d5 : w5.cell? ⟨b + 1, 5, none⟩ = some (.bool hm) := R5.out.kc.at 5 _ rfl
    have d6 : w5.cell? ⟨b + 1, 6, none⟩ = some (.int .i64 ex) := R5.out.kc.at 6 _ rfl
    have d7 : w5.cell? ⟨b + 1, 7, none⟩ = some (.bool he) := R5.out.kc.at 7 _ rfl
    have x3 : w5.cell? ⟨b + 2, 3, none⟩ = some (.int .i64 now) := R5.out.kx.at 3 _ rfl
    obtain ⟨till, htl⟩ := name_it (if hm = true then now + ma else if he = true then ex else 0)
    obtain ⟨ends, hen⟩ := name_it (hm || he)
    have HTL : Hid ((if hm = true then now + ma else if he = true then ex else 0) = till) := htl
    have HEN : Hid ((hm || he) = ends) := hen
    clear htl hen
    go_wp2_with fail
    conv => arg 2; whnf
    go_upto_if 80 with fail
    go_cut [] from 14 (fun wx => Hid (CellsAt wx m (cellsP ⟨(⟨nm, v, pp, d, ma, hm, ex, he, sc, ht, sm⟩ : SetC), dom, kp, till, ends⟩)) ∧ Hid (Rs w b most p l.length cap (⟨nm, v, pp, d, ma, hm, ex, he, sc, ht, sm⟩ : SetC) host path sec now wx))
    case first =>
      have k13 : w5.cell? ⟨m, 13, none⟩ = some (.int .i64 0) := KN5.out.at 13 _ rfl
      have k14 : w5.cell? ⟨m, 14, none⟩ = some (.bool false) := KN5.out.at 14 _ rfl
      have y13 := KN5.out.free 13
      have y14 := KN5.out.free 14
      have KT : Hid (∀ tt : Int, CellsAt ((w5.setCell ⟨m, 13, none⟩ (.int .i64 tt)).setCell ⟨m, 14, none⟩ (.bool true)) m (cellsP ⟨(⟨nm, v, pp, d, ma, hm, ex, he, sc, ht, sm⟩ : SetC), dom, kp, tt, true⟩)) := fun tt => (KN5.out.set 13 (by show 13 < 15; decide) _).set 14 (by show 14 < 15; decide) _
      have RT := Lib.hid (fun tt : Int => (R5.out.set m 13 (.int .i64 tt) HB4.out).set m 14 (.bool true) HB4.out)
      cases hm with
      | true =>
        have ht1 : now + ma = till := by rw [← HTL.out, if_pos rfl]
        have ht2 : true = ends := HEN.out
        subst ht2
        clear FW
        go_wp2_with fail
        go_meet
        case rel => rw [← ht1]; exact ⟨KT.out _, RT.out _⟩
      | false =>
        cases he with
        | true =>
          have ht1 : ex = till := by rw [← HTL.out, if_neg (by decide), if_pos rfl]
          have ht2 : true = ends := HEN.out
          subst ht2
          subst ht1
          clear FW
          go_wp2_with fail
          go_meet
          case rel => exact ⟨KT.out _, RT.out _⟩
        | false =>
          have ht1 : 0 = till := by rw [← HTL.out, if_neg (by decide), if_neg (by decide)]
          have ht2 : false = ends := HEN.out
          subst ht2
          subst ht1
          clear FW
          go_wp2_with fail
          go_meet
          case rel => exact ⟨KN5, R5⟩
    case rest =>
    obtain ⟨KN6, R6⟩ := hcut
    obtain ⟨w6, hw6⟩ : ∃ w6, w6 = wc := ⟨wc, rfl⟩
    subst hw6
    have KEQ : kpOf (⟨nm, v, pp, d, ma, hm, ex, he, sc, ht, sm⟩ : SetC) host path now = ⟨(⟨nm, v, pp, d, ma, hm, ex, he, sc, ht, sm⟩ : SetC), dom, kp, till, ends⟩ := by
      rw [← HDM.out, ← HKP.out, ← HTL.out, ← HEN.out]; rfl
    rw [KEQ] at FW
    clear KN5 R5 hr1 MB AB x3 d4 d5 d6 d7
    have hln : l.length ≤ 3000 := by omega
    have HRQ : Hid (V = 0 → R = trimJ most now (putC l ⟨(⟨nm, v, pp, d, ma, hm, ex, he, sc, ht, sm⟩ : SetC), dom, kp, till, ends⟩)) := fun hv => by
      rw [← HRR.out]
      unfold setJ
      rw [if_pos (by rw [HV.out, hv]), KEQ]
    have FWQ : Hid (V = match wasC l ⟨(⟨nm, v, pp, d, ma, hm, ex, he, sc, ht, sm⟩ : SetC), dom, kp, till, ends⟩ with | none => 0 | some y => if sec = false ∧ y.c.secure = true ∧ y.over now = false then 163 else 0) := by rw [← HV.out]; exact FW.out
    clear FW KEQ
    go_upto_region 19 with fail
    refine rset_t19 ?hK hm1 hm2 hln HLM HCP HK HL HB4 SB HRQ FWQ R6 KN6 hret
    case hK => assumption
end Go.Proofs.YtkenianfpfamcaaGreatDoor
