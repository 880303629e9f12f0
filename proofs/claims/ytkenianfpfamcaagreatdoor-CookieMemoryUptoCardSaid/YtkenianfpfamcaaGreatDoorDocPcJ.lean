/- The document's Set: how it ends. -/
import Derived.Test.YtkenianfpfamcaaGreatDoorDc
import Derived.Test.YtkenianfpfamcaaGreatDoorDd
import Derived.Test.YtkenianfpfamcaaGreatDoorJarHJ
import Derived.Deep.CutBlock
import Derived.Test.YtkenianfpfamcaaGreatDoorDe
namespace Go.Proofs.YtkenianfpfamcaaGreatDoor
open Go Go.RowKit
set_option maxHeartbeats 64000000

/-- the four blocks of a setting -/
structure Rs (w : World) (b : Nat) (most : Int) (p : Option Addr) (n cap : Nat) (c : SetC) (host path : List UInt8) (sec : Bool) (now : Int) (wx : World) : Prop where
  kj : CellsAt wx b [.int .i64 most, .slice p n cap]
  kc : CellsAt wx (b + 1) (cellsS c)
  kx : CellsAt wx (b + 2) [.string (bs host), .string (bs path), .bool sec, .int .i64 now]
  kr : CellsAt wx (b + 3) [.int .i64 0, .slice none 0 0]
  bl : Below w.heap.size w wx
  hb : w.heap.size ≤ b
theorem Rs.next {w : World} {b : Nat} {most : Int} {p : Option Addr} {n cap : Nat} {c : SetC} {host path : List UInt8} {sec : Bool} {now : Int} {wx wy : World} (h : Rs w b most p n cap c host path sec now wx) (hb : Below wx.heap.size wx wy) : Rs w b most p n cap c host path sec now wy :=
  ⟨h.kj.next hb, h.kc.next hb, h.kx.next hb, h.kr.next hb, h.bl.trans (hb.mono h.bl.size), h.hb⟩
theorem Rs.set {w : World} {b : Nat} {most : Int} {p : Option Addr} {n cap : Nat} {c : SetC} {host path : List UInt8} {sec : Bool} {now : Int} {wx : World} (h : Rs w b most p n cap c host path sec now wx) (m k : Nat) (v : Value) (hm : b + 4 ≤ m) : Rs w b most p n cap c host path sec now (wx.setCell ⟨m, k, none⟩ v) :=
  ⟨h.kj.other (by omega) k v, h.kc.other (by omega) k v, h.kx.other (by omega) k v, h.kr.other (by omega) k v, below_set h.bl (by have := h.hb; omega), h.hb⟩
theorem Rs.put {w : World} {b : Nat} {most : Int} {p : Option Addr} {n cap : Nat} {c : SetC} {host path : List UInt8} {sec : Bool} {now : Int} (m : Nat) (hm : b + 4 ≤ m) : ∀ (vs : List Value) (k : Nat) (wx : World), Rs w b most p n cap c host path sec now wx → Rs w b most p n cap c host path sec now (putAll wx m k vs)
  | [], _, _, h => h
  | v :: vs, k, _, h => Rs.put m hm vs (k + 1) _ (h.set m k v hm)
theorem Rs.ret {w : World} {b : Nat} {most : Int} {p : Option Addr} {n cap : Nat} {c : SetC} {host path : List UInt8} {sec : Bool} {now : Int} {wx : World} (h : Rs w b most p n cap c host path sec now wx) :
    CellsAt (putAll wx (b + 3) 0 [.int .i64 most, .slice p n cap]) (b + 3) [.int .i64 most, .slice p n cap] ∧ Below w.heap.size w (putAll wx (b + 3) 0 [.int .i64 most, .slice p n cap]) :=
  ⟨h.kr.put _ rfl, putAll_below _ 0 _ _ h.bl (by have := h.hb; omega)⟩
theorem Rs.low {w : World} {b B : Nat} {most : Int} {p : Option Addr} {n cap : Nat} {c : SetC} {host path : List UInt8} {sec : Bool} {now : Int} {wx wy : World} (h : Rs w b most p n cap c host path sec now wx) (hb : Below B wx wy) (hB : b + 4 ≤ B) : Rs w b most p n cap c host path sec now wy :=
  ⟨h.kj.low hb (by omega), h.kc.low hb (by omega), h.kx.low hb (by omega), h.kr.low hb (by omega), h.bl.trans (hb.mono (by have := h.hb; omega)), h.hb⟩
theorem Rs.seat {w : World} {b : Nat} {most : Int} {p : Option Addr} {n cap : Nat} {c : SetC} {host path : List UInt8} {sec : Bool} {now : Int} {wx : World} (h : Rs w b most p n cap c host path sec now wx) (q : Option Addr) (n' cap' : Nat) : Rs w b most q n' cap' c host path sec now (wx.setCell ⟨b, 1, none⟩ (.slice q n' cap')) :=
  ⟨h.kj.set 1 (by show 1 < 2; decide) _, h.kc.other (by omega) _ _, h.kx.other (by omega) _ _, h.kr.other (by omega) _ _, below_set h.bl h.hb, h.hb⟩
theorem Rs.seat0 {w : World} {b : Nat} {most : Int} {p : Option Addr} {n cap : Nat} {c : SetC} {host path : List UInt8} {sec : Bool} {now : Int} {wx : World} (h : Rs w b most p n cap c host path sec now wx) : Rs w b most p n cap c host path sec now (wx.setCell ⟨b, 0, none⟩ (.int .i64 most)) :=
  ⟨h.kj.set 0 (by show 0 < 2; decide) _, h.kc.other (by omega) _ _, h.kx.other (by omega) _ _, h.kr.other (by omega) _ _, below_set h.bl h.hb, h.hb⟩
theorem fail_mom {l : List Kp} {c : SetC} {host path : List UInt8} {secure : Bool} {now : Int} (h : isMom now = false) : failC l c host path secure now = 1 := by
  unfold failC; rw [if_pos h]
theorem fail_wrong {l : List Kp} {c : SetC} {host path : List UInt8} {secure : Bool} {now : Int} (h : isMom now = true) (hw : wrongC c ≠ 0) : failC l c host path secure now = wrongC c := by
  unfold failC; rw [if_neg (by rw [h]; decide), if_pos hw]
theorem fail_foreign {l : List Kp} {c : SetC} {host path : List UInt8} {secure : Bool} {now : Int} (h : isMom now = true) (hw : wrongC c = 0) (hf : c.domain ≠ [] ∧ belongsC host c.domain = false) : failC l c host path secure now = 162 := by
  unfold failC; rw [if_neg (by rw [h]; decide), if_neg (by rw [hw]; decide), if_pos hf]
theorem fail_unsafe {l : List Kp} {c : SetC} {host path : List UInt8} {secure : Bool} {now : Int} (h : isMom now = true) (hw : wrongC c = 0) (hf : ¬ (c.domain ≠ [] ∧ belongsC host c.domain = false)) (hu : unsafe1 c secure = true) : failC l c host path secure now = 163 := by
  unfold failC; rw [if_neg (by rw [h]; decide), if_neg (by rw [hw]; decide), if_neg hf, if_pos hu]
theorem fail_was {l : List Kp} {c : SetC} {host path : List UInt8} {secure : Bool} {now : Int} (h : isMom now = true) (hw : wrongC c = 0) (hf : ¬ (c.domain ≠ [] ∧ belongsC host c.domain = false)) (hu : unsafe1 c secure = false) :
    failC l c host path secure now = match wasC l (kpOf c host path now) with | none => 0 | some y => if secure = false ∧ y.c.secure = true ∧ y.over now = false then 163 else 0 := by
  unfold failC; rw [if_neg (by rw [h]; decide), if_neg (by rw [hw]; decide), if_neg hf, if_neg (by rw [hu]; decide)]
  rfl
noncomputable def setFrom32 : Code := ((Tryz.f25.body.bind (fromReg 32)).getD .skip)
set_option maxRecDepth 100000 in
theorem rset_t32 {Q : Exit → Act → World → Prop} {K : Act → World → Prop} (hK : ∀ a w, Code.wp Tryz.prog (seqTl setFrom32) Q a w → K a w) {most b cap cap2 : Nat} {p q : Option Addr} {l R R1 : List Kp} {V : Int} {host path : List UInt8} {sec : Bool} {now : Int} {w w10 : World} {nm v pp d : List UInt8} {ma : Int} {hm : Bool} {ex : Int} {he sc ht : Bool} {sm : Int}
    (hm1 : 1 ≤ most) (hm2 : most ≤ 3000) (HV0 : Hid (V = 0)) (HRT : Hid (R = trimJ most now R1)) (R10 : Hid (Rs w b most p l.length cap (⟨nm, v, pp, d, ma, hm, ex, he, sc, ht, sm⟩ : SetC) host path sec now w10)) (L10 : Hid (KpL w10 q R1)) (CA10 : Hid (R1.length ≤ cap2)) (GQ : Hid (∀ g off, q = some ⟨g, off, none⟩ → b + 4 ≤ g)) (LR2 : Hid (R1.length ≤ 3001))
    {c0 c1 c2 c7 c8 c9 c11 c12 c13 c14 c15 c16 c17 c18 c19 c20 c21 c22 c23 c24 c25 c26 c27 c28 c29 c30 c31 c32 c33 c34 c35 c36 c37 c38 c39 c40 c41 c42 c43 c44 c45 c46 c47 c48 c49 c50 c51 c52 c53 c54 c55 c56 c57 c58 c59 c60 c61 c62 c63 c64 c65 c66 c67 c68 c69 c70 c71 c72 c73 c74 c75 c76 c77 c78 c79 c80 c81 c82 c83 c84 c85 c86 c87 c88 c89 c90 c91 c92 c93 c94 c95 c96 c97 c98 c99 c100 c101 c102 c103 c104 c105 c106 c107 c108 c109 c110 c111 c112 c113 c114 c115 c116 c117 c118 c119 c120 c121 c122 c123 c124 c125 c126 c127 c128 c129 c130 c131 c132 c133 c134 c135 c136 c137 c138 c139 c140 c141 c142 c143 c144 c145 c146 c147 c148 c149 c150 c151 c152 c153 c154 c155 c156 c157 c158 c159 c160 c161 c162 c163 c164 c165 c166 c167 c168 c169 c170 c171 c172 c173 c174 c175 c176 c177 c178 c179 c180 c181 c182 c183 c184 c185 c186 c187 : Value}
    (hret : ∀ (d0 d1 d2 d8 d9 d10 d11 d12 d13 d14 d15 d16 d17 d18 d19 d20 d21 d22 d23 d24 d25 d26 d27 d28 d29 d30 d31 d32 d33 d34 d35 d36 d37 d38 d39 d40 d41 d42 d43 d44 d45 d46 d47 d48 d49 d50 d51 d52 d53 d54 d55 d56 d57 d58 d59 d60 d61 d62 d63 d64 d65 d66 d67 d68 d69 d70 d71 d72 d73 d74 d75 d76 d77 d78 d79 d80 d81 d82 d83 d84 d85 d86 d87 d88 d89 d90 d91 d92 d93 d94 d95 d96 d97 d98 d99 d100 d101 d102 d103 d104 d105 d106 d107 d108 d109 d110 d111 d112 d113 d114 d115 d116 d117 d118 d119 d120 d121 d122 d123 d124 d125 d126 d127 d128 d129 d130 d131 d132 d133 d134 d135 d136 d137 d138 d139 d140 d141 d142 d143 d144 d145 d146 d147 d148 d149 d150 d151 d152 d153 d154 d155 d156 d157 d158 d159 d160 d161 d162 d163 d164 d165 d166 d167 d168 d169 d170 d171 d172 d173 d174 d175 d176 d177 d178 d179 d180 d181 d182 d183 d184 d185 d186 d187 : Value) (q : Option Addr) (cap0 : Nat) (w0 : World), w0.cell? ⟨b + 3, 0, none⟩ = some (.int .i64 most) → w0.cell? ⟨b + 3, 1, none⟩ = some (.slice q R.length cap0) → R.length ≤ cap0 → KpL w0 q R → (q = p ∧ R = l ∨ ∀ g off, q = some ⟨g, off, none⟩ → w.heap.size ≤ g) → Below w.heap.size w w0 → Q .ret ⟨List.toArray (d0 :: d1 :: d2 :: .pointer (some ⟨b, 0, none⟩) :: .pointer (some ⟨b + 1, 0, none⟩) :: .pointer (some ⟨b + 2, 0, none⟩) :: .pointer (some ⟨b + 3, 0, none⟩) :: .int .i64 V :: d8 :: d9 :: d10 :: d11 :: d12 :: d13 :: d14 :: d15 :: d16 :: d17 :: d18 :: d19 :: d20 :: d21 :: d22 :: d23 :: d24 :: d25 :: d26 :: d27 :: d28 :: d29 :: d30 :: d31 :: d32 :: d33 :: d34 :: d35 :: d36 :: d37 :: d38 :: d39 :: d40 :: d41 :: d42 :: d43 :: d44 :: d45 :: d46 :: d47 :: d48 :: d49 :: d50 :: d51 :: d52 :: d53 :: d54 :: d55 :: d56 :: d57 :: d58 :: d59 :: d60 :: d61 :: d62 :: d63 :: d64 :: d65 :: d66 :: d67 :: d68 :: d69 :: d70 :: d71 :: d72 :: d73 :: d74 :: d75 :: d76 :: d77 :: d78 :: d79 :: d80 :: d81 :: d82 :: d83 :: d84 :: d85 :: d86 :: d87 :: d88 :: d89 :: d90 :: d91 :: d92 :: d93 :: d94 :: d95 :: d96 :: d97 :: d98 :: d99 :: d100 :: d101 :: d102 :: d103 :: d104 :: d105 :: d106 :: d107 :: d108 :: d109 :: d110 :: d111 :: d112 :: d113 :: d114 :: d115 :: d116 :: d117 :: d118 :: d119 :: d120 :: d121 :: d122 :: d123 :: d124 :: d125 :: d126 :: d127 :: d128 :: d129 :: d130 :: d131 :: d132 :: d133 :: d134 :: d135 :: d136 :: d137 :: d138 :: d139 :: d140 :: d141 :: d142 :: d143 :: d144 :: d145 :: d146 :: d147 :: d148 :: d149 :: d150 :: d151 :: d152 :: d153 :: d154 :: d155 :: d156 :: d157 :: d158 :: d159 :: d160 :: d161 :: d162 :: d163 :: d164 :: d165 :: d166 :: d167 :: d168 :: d169 :: d170 :: d171 :: d172 :: d173 :: d174 :: d175 :: d176 :: d177 :: d178 :: d179 :: d180 :: d181 :: d182 :: d183 :: d184 :: d185 :: d186 :: d187 :: []), []⟩ w0) :
    Code.wp Tryz.prog (seqHd setFrom32) (Exit.then K Q) ⟨List.toArray (c0 :: c1 :: c2 :: .pointer (some ⟨b, 0, none⟩) :: .pointer (some ⟨b + 1, 0, none⟩) :: .pointer (some ⟨b + 2, 0, none⟩) :: .pointer (some ⟨b + 3, 0, none⟩) :: c7 :: c8 :: c9 :: .slice q R1.length cap2 :: c11 :: c12 :: c13 :: c14 :: c15 :: c16 :: c17 :: c18 :: c19 :: c20 :: c21 :: c22 :: c23 :: c24 :: c25 :: c26 :: c27 :: c28 :: c29 :: c30 :: c31 :: c32 :: c33 :: c34 :: c35 :: c36 :: c37 :: c38 :: c39 :: c40 :: c41 :: c42 :: c43 :: c44 :: c45 :: c46 :: c47 :: c48 :: c49 :: c50 :: c51 :: c52 :: c53 :: c54 :: c55 :: c56 :: c57 :: c58 :: c59 :: c60 :: c61 :: c62 :: c63 :: c64 :: c65 :: c66 :: c67 :: c68 :: c69 :: c70 :: c71 :: c72 :: c73 :: c74 :: c75 :: c76 :: c77 :: c78 :: c79 :: c80 :: c81 :: c82 :: c83 :: c84 :: c85 :: c86 :: c87 :: c88 :: c89 :: c90 :: c91 :: c92 :: c93 :: c94 :: c95 :: c96 :: c97 :: c98 :: c99 :: c100 :: c101 :: c102 :: c103 :: c104 :: c105 :: c106 :: c107 :: c108 :: c109 :: c110 :: c111 :: c112 :: c113 :: c114 :: c115 :: c116 :: c117 :: c118 :: c119 :: c120 :: c121 :: c122 :: c123 :: c124 :: c125 :: c126 :: c127 :: c128 :: c129 :: c130 :: c131 :: c132 :: c133 :: c134 :: c135 :: c136 :: c137 :: c138 :: c139 :: c140 :: c141 :: c142 :: c143 :: c144 :: c145 :: c146 :: c147 :: c148 :: c149 :: c150 :: c151 :: c152 :: c153 :: c154 :: c155 :: c156 :: c157 :: c158 :: c159 :: c160 :: c161 :: c162 :: c163 :: c164 :: c165 :: c166 :: c167 :: c168 :: c169 :: c170 :: c171 :: c172 :: c173 :: c174 :: c175 :: c176 :: c177 :: c178 :: c179 :: c180 :: c181 :: c182 :: c183 :: c184 :: c185 :: c186 :: c187 :: []), []⟩ w10 := by
  obtain rfl := HV0.out
  have j1 := R10.out.kj.at 1 _ rfl
  have jf1 := R10.out.kj.free 1
  have L11 := Lib.hid (L10.out.far (b := b) (k := 1) (v := .slice q R1.length cap2) (fun g off h e => by have := GQ.out g off h; omega))
  have R11 := Lib.hid (R10.out.seat q R1.length cap2)
  clear L10 R10
  conv => arg 2; whnf
  go_wp2_with fail
  conv => arg 2; whnf
  go_upto_region 33 with fail
  generalize w10.setCell ⟨b, 1, none⟩ _ = w11 at L11 R11 ⊢
  clear j1 jf1
  have j0 := R11.out.kj.at 0 _ rfl
  have j1 := R11.out.kj.at 1 _ rfl
  go_cut [166] from 14 (fun t wx => t = .bool (decide (most < R1.length)) ∧ wx = w11)
  case first =>
    go_wp2_with fail
    all_goals (try (exfalso; omega))
    go_meet
    case rel => exact ⟨rfl, rfl⟩
  case rest =>
  obtain ⟨rfl, hwc⟩ := hcut
  rw [hwc]
  clear hwc
  obtain ⟨PB2, hPB2⟩ := name_it (decide (most < R1.length))
  rw [hPB2.out]
  obtain ⟨M, hM⟩ := name_it (if most < R1.length then sweepC R1 now else R1)
  have HM : Hid ((if most < R1.length then sweepC R1 now else R1) = M) := hM
  have LM : Hid (M.length ≤ 3001) := by
    have h1 := LR2.out
    have h2 := sweep_length R1 now
    unfold Hid
    rw [← hM.out]
    split <;> omega
  clear hM
  go_upto_if 166 with fail
  go_cut [] from 14 (fun wx => Hid (∃ q cap3, Rs w b most q M.length cap3 (⟨nm, v, pp, d, ma, hm, ex, he, sc, ht, sm⟩ : SetC) host path sec now wx ∧ KpL wx q M ∧ M.length ≤ cap3 ∧ ∀ g off, q = some ⟨g, off, none⟩ → b + 4 ≤ g))
  case first =>
    cases PB2 with
    | false =>
      have hMR : R1 = M := by
        rw [← HM.out, if_neg (fun h => by have := of_decide_eq_false hPB2.out; omega)]
      subst hMR
      clear hPB2 HM
      go_wp2_with fail
      go_meet
      case rel => exact ⟨q, cap2, R11.out, L11.out, CA10.out, GQ.out⟩
    | true =>
      have hMS : sweepC R1 now = M := by
        rw [← HM.out, if_pos (by have := of_decide_eq_true hPB2.out; omega)]
      have WO := Lib.hid (rwithout_any most q cap2 R1 now w11 L11.out (by have := LR2.out; omega))
      rw [hMS] at WO
      have x3 : w11.cell? ⟨b + 2, 3, none⟩ = some (.int .i64 now) := R11.out.kx.at 3 _ rfl
      clear hPB2 HM hMS
      go_wp2_with fail
      refine WO.out.mono ?_; rintro e w12 ⟨⟨q3, cap3, rfl, hc3, hl3, hg3⟩, hb12⟩
      have R12 := Lib.hid (R11.out.next hb12)
      have G3 : Hid (∀ g off, q3 = some ⟨g, off, none⟩ → b + 4 ≤ g) := fun g off h => by
        have h1 := hg3 g off h
        have h2 := R11.out.kr.lt
        omega
      have LA := Lib.hid (hl3.far (b := b) (k := 0) (v := .int .i64 most) (fun g off h e => by have := G3.out g off h; omega))
      have LB := Lib.hid (LA.out.far (b := b) (k := 1) (v := .slice q3 M.length cap3) (fun g off h e => by have := G3.out g off h; omega))
      have RA := Lib.hid ((R12.out.seat0).seat q3 M.length cap3)
      have j0 := R12.out.kj.at 0 _ rfl
      have j1 := R12.out.kj.at 1 _ rfl
      have jf0 := R12.out.kj.free 0
      have jf1 := R12.out.kj.free 1
      clear WO hb12 hl3 R12 LA x3
      go_wp2_with fail
      go_meet
      case rel => exact ⟨q3, cap3, RA.out, LB.out, hc3, G3.out⟩
  case rest =>
  obtain ⟨q4, cap4, hR4, hL4, hc4, hg4⟩ := hcut.out
  obtain ⟨w13, hw13⟩ : ∃ w13, w13 = wc := ⟨wc, rfl⟩
  subst hw13
  have R13 := Lib.hid hR4
  have L13 := Lib.hid hL4
  have C13 := Lib.hid hc4
  have G13 := Lib.hid hg4
  have HRD : Hid (R = if most < M.length then M.drop (M.length - most) else M) := by
    unfold Hid
    rw [HRT.out, ← HM.out]
    rfl
  clear hR4 hL4 hc4 hg4 hcut R11 L11 CA10 GQ hPB2 HM HRT j0 j1
  have j0 := R13.out.kj.at 0 _ rfl
  have j1 := R13.out.kj.at 1 _ rfl
  go_upto_region 35 with fail
  go_cut [176] from 14 (fun t wx => t = .bool (decide (most < M.length)) ∧ wx = w13)
  case first =>
    go_wp2_with fail
    all_goals (try (exfalso; omega))
    go_meet
    case rel => exact ⟨rfl, rfl⟩
  case rest =>
  obtain ⟨rfl, hwc⟩ := hcut
  rw [hwc]
  clear hwc
  obtain ⟨PB3, hPB3⟩ := name_it (decide (most < M.length))
  rw [hPB3.out]
  go_upto_if 176 with fail
  go_cut [] from 14 (fun wx => Hid (∃ q cap3, Rs w b most q R.length cap3 (⟨nm, v, pp, d, ma, hm, ex, he, sc, ht, sm⟩ : SetC) host path sec now wx ∧ KpL wx q R ∧ R.length ≤ cap3 ∧ ∀ g off, q = some ⟨g, off, none⟩ → b + 4 ≤ g))
  case first =>
    cases PB3 with
    | false =>
      have hMR : R = M := by
        rw [HRD.out, if_neg (fun h => by have := of_decide_eq_false hPB3.out; omega)]
      subst hMR
      clear hPB3 HRD
      go_wp2_with fail
      go_meet
      case rel => exact ⟨q4, cap4, R13.out, L13.out, C13.out, G13.out⟩
    | true =>
      have hlt : most < M.length := by have := of_decide_eq_true hPB3.out; omega
      have hRM : Hid (R = M.drop (M.length - most)) := by unfold Hid; rw [HRD.out, if_pos hlt]
      obtain ⟨t, ht⟩ : ∃ t : Nat, M.length = most + t := ⟨M.length - most, by omega⟩
      obtain ⟨g4, o4, hq4⟩ : ∃ g off, q4 = some ⟨g, off, none⟩ := by
        rcases L13.out.mem with h | ⟨g, off, h, _⟩
        · rw [h, List.length_nil] at hlt; omega
        · exact ⟨g, off, h⟩
      subst hq4
      have hsub : (M.length : Int) - most = t := by omega
      have LT := Lib.hid (L13.out.drop (k := t))
      have HRL : Hid (M.drop t = R) := by rw [hRM.out, ht]; congr 1; omega
      rw [HRL.out] at LT
      have HLN : Hid (R.length = M.length - t) := by unfold Hid; rw [← HRL.out, List.length_drop]
      have jf1 := R13.out.kj.free 1
      have hc5 := C13.out
      have ht2 : t ≤ M.length := by omega
      have hlm9 := LM.out
      have hwr : wrap64 (t : Int) = (t : Int) := IntWalk.wrap64_in _ (by omega)
      have hct : ¬ cap4 = t := by omega
      have CT : Hid (R.length ≤ cap4 - t) := by have := HLN.out; unfold Hid; omega
      have LF := Lib.hid (LT.out.far (b := b) (k := 1) (v := .slice (some ⟨g4, o4 + t * 15, none⟩) R.length (cap4 - t)) (fun g off h e => by
        injection h with h; injection h with h _
        have := G13.out g4 o4 rfl
        omega))
      have RF9 := Lib.hid (R13.out.seat (some ⟨g4, o4 + t * 15, none⟩) R.length (cap4 - t))
      have GF : Hid (∀ g off, (some ⟨g4, o4 + t * 15, none⟩ : Option Addr) = some ⟨g, off, none⟩ → b + 4 ≤ g) := fun g off h => by
        injection h with h; injection h with h _
        rw [← h]
        exact G13.out g4 o4 rfl
      rw [HLN.out] at LF RF9
      clear hPB3 HRD ht hRM hlm9 LT
      go_wp2_with fail
      all_goals (try (exfalso; omega))
      go_meet
      case rel => exact ⟨_, _, by rw [HLN.out]; exact RF9.out, LF.out, CT.out, GF.out⟩
  case rest =>
  obtain ⟨q5, cap5, hR5, hL5, hc5, hg5⟩ := hcut.out
  obtain ⟨w14, hw14⟩ : ∃ w14, w14 = wc := ⟨wc, rfl⟩
  subst hw14
  have j0 := hR5.kj.at 0 _ rfl
  have j1 := hR5.kj.at 1 _ rfl
  have z0 := hR5.kr.at 0 _ rfl
  have z1 := hR5.kr.at 1 _ rfl
  have y0 := hR5.kr.free 0
  have y1 := hR5.kr.free 1
  obtain ⟨KE0, DE0⟩ := hR5.ret
  have KE := Lib.hid KE0
  have DE := Lib.hid DE0
  have LZ := Lib.hid ((hL5.far (b := b + 3) (k := 0) (v := .int .i64 most) (fun g off h e => by have := hg5 g off h; omega)).far (b := b + 3) (k := 1) (v := .slice q5 R.length cap5) (fun g off h e => by have := hg5 g off h; omega))
  have C5 := Lib.hid hc5
  have G5 : Hid (q5 = p ∧ R = l ∨ ∀ g off, q5 = some ⟨g, off, none⟩ → w.heap.size ≤ g) := Or.inr fun g off h => by have := hg5 g off h; have := hR5.hb; omega
  clear KE0 DE0 hR5 hL5 hg5 hcut R13 L13 G13 C13 hPB3 hc5
  unfold putAll putAll putAll at KE DE
  have f0 := KE.out.at 0 _ rfl
  have f1 := KE.out.at 1 _ rfl
  simp only [Nat.zero_add] at DE f0 f1
  have HRT9 := Lib.hid hret
  clear hret
  go_wp2_with fail
  exact HRT9.out _ _ _ _ _ _ _ _ _ _ _ _ _ _ _ _ _ _ _ _ _ _ _ _ _ _ _ _ _ _ _ _ _ _ _ _ _ _ _ _ _ _ _ _ _ _ _ _ _ _ _ _ _ _ _ _ _ _ _ _ _ _ _ _ _ _ _ _ _ _ _ _ _ _ _ _ _ _ _ _ _ _ _ _ _ _ _ _ _ _ _ _ _ _ _ _ _ _ _ _ _ _ _ _ _ _ _ _ _ _ _ _ _ _ _ _ _ _ _ _ _ _ _ _ _ _ _ _ _ _ _ _ _ _ _ _ _ _ _ _ _ _ _ _ _ _ _ _ _ _ _ _ _ _ _ _ _ _ _ _ _ _ _ _ _ _ _ _ _ _ _ _ _ _ _ _ _ _ _ _ _ _ _ q5 cap5 _ f0 f1 C5.out LZ.out G5.out DE.out
end Go.Proofs.YtkenianfpfamcaaGreatDoor
