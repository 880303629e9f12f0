/- Cookies as a client sends them: plain. Contract of cookie.Print: cookies as a client sends them. Contract of the document's Print: cookies as a client sends them. Cookies copied to a slice of the call's own. The law's CookiePrints. -/
import Derived.Test.YtkenianfpfamcaaGreatDoorMp
import Derived.Test.YtkenianfpfamcaaGreatDoorMb
import Derived.Deep.DeepCutAuto
import Derived.Deep.Upon
import Derived.Test.YtkenianfpfamcaaGreatDoorMo
namespace Go.Proofs.YtkenianfpfamcaaGreatDoor
open Go Go.RowKit

def lenL (l : List Ck) : Nat := (l.map fun c => c.1.length + c.2.length + 3).sum
theorem lenL_cons (c : Ck) (l : List Ck) : lenL (c :: l) = c.1.length + c.2.length + 3 + lenL l := by unfold lenL; rw [List.map_cons, List.sum_cons]
theorem lenL_mem : ∀ {l : List Ck} {c : Ck}, c ∈ l → c.1.length + c.2.length + 3 ≤ lenL l
  | [], _, h => by cases h
  | x :: l, c, h => by
    rw [lenL_cons]
    rcases List.mem_cons.1 h with rfl | h
    · omega
    · have := lenL_mem h; omega
theorem lenL_len (l : List Ck) : 3 * l.length ≤ lenL l := by
  induction l with
  | nil => exact Nat.zero_le _
  | cons c l ih => rw [lenL_cons, List.length_cons]; omega
theorem lenL_take (l : List Ck) (k : Nat) : lenL (l.take k) ≤ lenL l := by
  induction l generalizing k with
  | nil => simp
  | cons c l ih =>
    cases k with
    | zero => exact Nat.zero_le _
    | succ k => rw [List.take_succ_cons, lenL_cons, lenL_cons]; have := ih k; omega
theorem eqC_len (c : Ck) : (eqC c).length = c.1.length + c.2.length + 1 := by unfold eqC; simp; omega
theorem jt_len (l : List Ck) : (Lib.joinTail [59, 32] (l.map eqC)).length = lenL l := by
  induction l with
  | nil => rfl
  | cons c l ih =>
    have e : Lib.joinTail [59, 32] ((c :: l).map eqC) = [59, 32] ++ eqC c ++ Lib.joinTail [59, 32] (l.map eqC) := by unfold Lib.joinTail; simp
    rw [e, List.length_append, List.length_append, ih, lenL_cons, eqC_len]
    simp; omega
theorem sentC_len (l : List Ck) : (sentC l).length ≤ lenL l := by
  cases l with
  | nil => exact Nat.le_refl _
  | cons c l =>
    unfold sentC
    rw [List.map_cons, Lib.join_cons, List.length_append, jt_len, lenL_cons, eqC_len]; omega
theorem sentC_snoc (l : List Ck) (c : Ck) : sentC (l ++ [c]) = if l = [] then eqC c else sentC l ++ ([59, 32] ++ eqC c) := by
  cases l with
  | nil => unfold sentC; rw [if_pos rfl]; rw [List.nil_append, List.map_cons, Lib.join_cons]; show eqC c ++ [] = _; simp
  | cons x l =>
    rw [if_neg (by simp)]
    unfold sentC
    rw [List.cons_append, List.map_cons, List.map_cons, Lib.join_cons, Lib.join_cons, List.map_append]
    have e : Lib.joinTail [59, 32] (l.map eqC ++ [c].map eqC) = Lib.joinTail [59, 32] (l.map eqC) ++ ([59, 32] ++ eqC c) := by unfold Lib.joinTail; simp
    rw [e, List.append_assoc]
def rightL (l : List Ck) : Bool := l.all fun c => rightC c.1 c.2
def printLV (l : List Ck) : Value := .tuple #[.string (bs (if rightL l = true then sentC l else [])), .int .i64 (if rightL l = true then 0 else 160)]
theorem printLV_bad {l : List Ck} {k : Nat} (hk : k < l.length) (h : rightC l[k].1 l[k].2 = false) : printLV l = .tuple #[.string ⟨#[]⟩, .int .i64 160] := by
  have hr : ¬ rightL l = true := by
    intro hr
    have := List.all_eq_true.1 hr l[k] (List.getElem_mem hk)
    rw [h] at this; cases this
  unfold printLV
  rw [if_neg hr, if_neg hr]; rfl
theorem printLV_ok {l : List Ck} (h : rightL l = true) : printLV l = .tuple #[.string (bs (sentC l)), .int .i64 0] := by
  unfold printLV
  rw [if_pos h, if_pos h]
theorem bs_eqC (c : Ck) : bs c.1 ++ ⟨#[61]⟩ ++ bs c.2 = bs (eqC c) := by
  have h1 : bs c.1 ++ (⟨#[61]⟩ : ByteArray) = bs (c.1 ++ [61]) := bs_append c.1 [61]
  rw [h1, bs_append]; unfold eqC; simp
end Go.Proofs.YtkenianfpfamcaaGreatDoor
namespace Go.Proofs.YtkenianfpfamcaaGreatDoor
open Go Go.RowKit
set_option maxHeartbeats 4000000

def eqV (c : Ck) : Value := .string (bs (eqC c))
theorem join_row {w : World} {base : Nat} {l : List Ck} {v : Value} (hO : w.ownsRow base 9 1 v l.length (l.map eqV)) (hl : lenL l ≤ 1099511627776) :
    Calls Tryz.prog 39 #[v, .string ⟨#[59, 32]⟩] w fun e w' => e = .returned (.string (bs (sentC l))) ∧ Below w.heap.size w w' := by
  have hle := sentC_len l
  have hln := lenL_len l
  rcases hO.2 with ⟨rfl, h0⟩ | ⟨g, cap, cur, rfl, hb, hg, hnc, hcm, hcs, htake⟩
  · have : l = [] := List.eq_nil_of_length_eq_zero h0
    subst this
    exact (Tryz.strings_Join_none none 0 ⟨#[59, 32]⟩ w).mono fun e w' ⟨h1, h2⟩ => ⟨h1, h2 ▸ Below.refl _ _⟩
  · have e1 : (l.map fun c => bs (eqC c)).map (·.data.toList) = l.map eqC := by rw [List.map_map]; rfl
    have h := Tryz.strings_Join g 0 cap (l.map fun c => bs (eqC c)) ⟨#[59, 32]⟩ w
      (by
        intro j x hx
        obtain ⟨hj, hx2⟩ := List.getElem?_eq_some_iff.1 hx
        rw [List.length_map] at hj
        rw [Nat.zero_add, hO.cellAt j (by omega), ← hx2, List.getElem?_map, List.getElem?_eq_getElem hj, List.getElem_map]; rfl)
      (Array.getElem?_eq_some_iff.1 hg).1 (by rw [List.length_map]; omega) (by rw [List.length_map]; exact hnc)
      (by rw [e1]; show (sentC l).length ≤ _; omega)
    rw [e1, List.length_map] at h
    exact h
set_option maxRecDepth 100000 in
theorem cprint_any (w : World) (p : Option Addr) (cap : Nat) (l : List Ck) (hE : EnvK w) (hC : Cks w p l) (hl : lenL l ≤ 1073741824) :
    Calls Tryz.prog 12 #[.slice p l.length cap] w fun e w' => e = .returned (printLV l) ∧ Below w.heap.size w w' := by
  have HC := Lib.hid hC
  have HE := Lib.hid hE
  have hln := lenL_len l
  clear hC hE
  obtain ⟨i0, hi, hz0, hz1, hz2⟩ := info_parts infoStr
  obtain ⟨V, hV⟩ := name_it (printLV l)
  rw [hV.out]
  go_enter Tryz.func12, Tryz.ntmps12
  go_wp2_with fail
  have Q0 : Hid (w.ownsRow w.heap.size 9 1 (.slice none 0 0) (l.take 0).length ((l.take 0).map eqV)) := World.ownsRow_nil ..
  go_loopw [4, 6, 9] (fun out _ i wr => ∃ k : Nat, k ≤ l.length ∧ i = .int .i64 k ∧ Hid (rightL (l.take k) = true) ∧ Hid (wr.ownsRow w.heap.size 9 1 out (l.take k).length ((l.take k).map eqV)) ∧ Hid (Below w.heap.size w wr)) (fun _ _ i _ => l.length - (intOf i).toNat)
  case atStart => exact ⟨0, Nat.zero_le _, rfl, rfl, Q0, Below.refl _ _⟩
  clear Q0
  case round =>
    obtain ⟨k, hk, rfl, hA, hQ, hB⟩ := hrel
    obtain ⟨wq, hwq⟩ : ∃ wq, wq = wr := ⟨wr, rfl⟩
    subst hwq
    by_cases hlt : k < l.length
    · obtain ⟨g, og, rfl, hg, c0, c1⟩ := (HC.out.next hB.out).get k hlt
      have HSK : Hid (l.take (k + 1) = l.take k ++ [l[k]]) := List.take_succ_eq_append_getElem hlt
      have HLK : Hid ((l.take k).length = k) := by unfold Hid; rw [List.length_take]; omega
      have hcl := lenL_mem (List.getElem_mem hlt)
      have HBAD := Lib.hid (@printLV_bad l k hlt)
      have HEQ := Lib.hid (bs_eqC l[k])
      obtain ⟨c, hc⟩ := name_it l[k]
      rw [hc.out] at c0 c1 HSK hcl HBAD HEQ
      obtain ⟨acc, hacc⟩ := name_it (l.take k)
      rw [hacc.out] at hQ HSK HLK hA
      have KC := Lib.hid (CellsAt.first wq [.string (bs c.1), .string (bs c.2)] tCk)
      have QD := Lib.hid (hQ.out.alloc (.cells #[.string (bs c.1), .string (bs c.2)] tCk))
      have BD := Lib.hid (hB.out.alloc hB.out.size (.cells #[.string (bs c.1), .string (bs c.2)] tCk))
      have z0 := KC.out.at 0 _ rfl
      have z1 := KC.out.at 1 _ rfl
      have RG := Lib.hid (right_any (bs c.1) (bs c.2) (wq.alloc (.cells #[.string (bs c.1), .string (bs c.2)] tCk)) ((HE.out.next BD.out).t) (by rw [size_bs]; omega) (by rw [size_bs]; omega))
      rw [L_bs, L_bs] at RG
      obtain ⟨so2, co2, hout2⟩ := row_slice QD.out
      subst hout2
      clear hc hacc
      go_upto_region 5 with fail
      all_goals (try (exfalso; omega))
      clear c0 c1 hQ
      have hBd := BD.out.size
      generalize wq.alloc _ = w5 at *
      cases hr : rightC c.1 c.2 with
      | false =>
        rw [hr] at RG
        have HV : Hid (V = .tuple #[.string ⟨#[]⟩, .int .i64 160]) := by rw [← hV.out]; exact HBAD.out hr
        clear HBAD hr
        go_wp2_with fail
        refine RG.out.mono ?_; rintro e w' ⟨rfl, rfl⟩
        go_wp2_with fail
        go_ret2
        exact ⟨by rw [HV.out]; rfl, BD.out⟩
      | true =>
        rw [hr] at RG
        have HA2 : Hid (rightL (l.take (k + 1)) = true) := by
          rw [HSK.out]; unfold Hid rightL
          rw [List.all_append]
          have : rightL acc = true := hA.out
          unfold rightL at this
          rw [this]
          show (true && (rightC c.1 c.2 && true)) = true
          rw [hr]; rfl
        clear HBAD hr
        go_wp2_with fail
        refine RG.out.mono ?_; rintro e w' ⟨rfl, rfl⟩
        go_upto_region 7 with fail
        have s1 : (bs c.1).size = c.1.length := size_bs c.1
        have s2 : (bs c.2).size = c.2.length := size_bs c.2
        go_wp2_with (at_builtin; rw [HEQ.out]; refine append1 rfl _ _ 86 rfl w.heap.size 9 i0 (.string ⟨#[]⟩) 16 Tryz.underlying86 hi hz0 hz1 hz2 rfl QD.out rfl (eqV c) rfl rfl (by have := HLK.out; unfold maxLen; omega) (by have := HLK.out; omega) hBd ?_)
        intro g7 cap7 w7 hg7 hown7 hb7
        have Q7 : Hid (w7.ownsRow w.heap.size 9 1 (.slice (some ⟨g7, 0, none⟩) (acc.length + 1) cap7) (l.take (k + 1)).length ((l.take (k + 1)).map eqV)) := by
          rw [HSK.out, List.length_append, List.length_singleton, List.map_append]; exact hown7
        have B7 := Lib.hid (BD.out.trans hb7)
        clear hown7 hb7
        go_wp2_with fail
        go_roundw
        case rel => exact ⟨k + 1, by omega, by go_num, HA2, Q7, B7⟩
        case measure => simp [intOf]; omega
    · obtain rfl : k = l.length := by omega
      rw [List.take_length] at hQ hA
      have HV : Hid (V = .tuple #[.string (bs (sentC l)), .int .i64 0]) := by rw [← hV.out]; exact printLV_ok hA.out
      obtain ⟨so2, co2, hout2⟩ := row_slice hQ.out
      subst hout2
      have JR := Lib.hid (join_row hQ.out (by omega))
      clear hQ
      go_wp2_with fail
      all_goals (try (exfalso; omega))
      refine JR.out.mono ?_; rintro e w7 ⟨rfl, hb7⟩
      have B7 := Lib.hid (hB.out.trans (hb7.mono hB.out.size))
      clear hb7
      go_wp2_with fail
      go_ret2
      exact ⟨by rw [HV.out]; rfl, B7.out⟩
end Go.Proofs.YtkenianfpfamcaaGreatDoor
namespace Go.Proofs.YtkenianfpfamcaaGreatDoor
open Go Go.RowKit
set_option maxHeartbeats 4000000

set_option maxRecDepth 100000 in
theorem rprintck_any (w : World) (p : Option Addr) (cap : Nat) (l : List Ck) (hC : Cks w p l) (hl : lenL l ≤ 1073741824) :
    Calls Tryz.prog 13 #[.slice p l.length cap] w fun e w' => e = .returned (printLV l) ∧ Below w.heap.size w w' := by
  have HC := Lib.hid hC
  have hln := lenL_len l
  clear hC
  obtain ⟨V, hV⟩ := name_it (printLV l)
  rw [hV.out]
  go_enter Tryz.func13, Tryz.ntmps13
  go_wp2_with fail
  go_loopw [4, 5, 6, 9] (fun out _ _ i wr => ∃ k : Nat, k ≤ l.length ∧ i = .int .i64 k ∧ out = .string (bs (sentC (l.take k))) ∧ Hid (rightL (l.take k) = true) ∧ Hid (Below w.heap.size w wr)) (fun _ _ _ i _ => l.length - (intOf i).toNat)
  case atStart => exact ⟨0, Nat.zero_le _, rfl, rfl, rfl, Below.refl _ _⟩
  case round =>
    obtain ⟨k, hk, rfl, rfl, hA, hB⟩ := hrel
    obtain ⟨wq, hwq⟩ : ∃ wq, wq = wr := ⟨wr, rfl⟩
    subst hwq
    by_cases hlt : k < l.length
    · obtain ⟨g, og, rfl, hg, c0, c1⟩ := (HC.out.next hB.out).get k hlt
      have HSK : Hid (l.take (k + 1) = l.take k ++ [l[k]]) := List.take_succ_eq_append_getElem hlt
      have HLK : Hid ((l.take k).length = k) := by unfold Hid; rw [List.length_take]; omega
      have hcl := lenL_mem (List.getElem_mem hlt)
      have HBAD := Lib.hid (@printLV_bad l k hlt)
      have HEQ := Lib.hid (bs_eqC l[k])
      have HSN := Lib.hid (sentC_snoc (l.take k) l[k])
      have hsl : (sentC (l.take k)).length ≤ 1073741824 := Nat.le_trans (sentC_len _) (Nat.le_trans (lenL_take l k) hl)
      rw [← HSK.out] at HSN
      have hel := eqC_len l[k]
      obtain ⟨c, hc⟩ := name_it l[k]
      rw [hc.out] at c0 c1 HSK hcl HBAD HEQ HSN hel
      have HNIL : Hid (l.take k = [] ↔ k = 0) := by
        constructor
        · intro h; have := HLK.out; rw [h] at this; exact this.symm
        · rintro rfl; rfl
      obtain ⟨acc, hacc⟩ := name_it (l.take k)
      rw [hacc.out] at HSK HLK hA HSN HNIL hsl ⊢
      obtain ⟨S, hS⟩ := name_it (sentC acc)
      rw [hS.out] at HSN hsl ⊢
      obtain ⟨E, hE⟩ := name_it (eqC c)
      rw [hE.out] at HSN HEQ hel
      have KC := Lib.hid (CellsAt.first wq [.string (bs c.1), .string (bs c.2)] tRk)
      have BD := Lib.hid (hB.out.alloc hB.out.size (.cells #[.string (bs c.1), .string (bs c.2)] tRk))
      have z0 := KC.out.at 0 _ rfl
      have z1 := KC.out.at 1 _ rfl
      have RG := Lib.hid (rright_any (bs c.1) (bs c.2) (wq.alloc (.cells #[.string (bs c.1), .string (bs c.2)] tRk)) (by rw [size_bs]; omega) (by rw [size_bs]; omega))
      rw [L_bs, L_bs] at RG
      have HS0 := Lib.hid hS.out
      clear hc hacc hS hE
      go_upto_region 5 with fail
      all_goals (try (exfalso; omega))
      clear c0 c1
      generalize wq.alloc _ = w5 at *
      cases hr : rightC c.1 c.2 with
      | false =>
        rw [hr] at RG
        have HV : Hid (V = .tuple #[.string ⟨#[]⟩, .int .i64 160]) := by rw [← hV.out]; exact HBAD.out hr
        clear HBAD hr
        go_wp2_with fail
        refine RG.out.mono ?_; rintro e w6 ⟨rfl, hb6⟩
        have B6 := Lib.hid (BD.out.trans (hb6.mono BD.out.size))
        go_wp2_with fail
        go_ret2
        exact ⟨by rw [HV.out]; rfl, B6.out⟩
      | true =>
        rw [hr] at RG
        have HA2 : Hid (rightL (l.take (k + 1)) = true) := by
          rw [HSK.out]; unfold Hid rightL
          rw [List.all_append]
          have : rightL acc = true := hA.out
          unfold rightL at this
          rw [this]
          show (true && (rightC c.1 c.2 && true)) = true
          rw [hr]; rfl
        clear HBAD hr
        go_wp2_with fail
        refine RG.out.mono ?_; rintro e w6 ⟨rfl, hb6⟩
        have B6 := Lib.hid (BD.out.trans (hb6.mono BD.out.size))
        have K6 := Lib.hid (KC.out.next hb6)
        clear BD KC RG z0 z1 hb6
        have z0 := K6.out.at 0 _ rfl
        have z1 := K6.out.at 1 _ rfl
        have s1 : (bs c.1).size = c.1.length := size_bs c.1
        have s2 : (bs c.2).size = c.2.length := size_bs c.2
        have s3 : (⟨#[59, 32]⟩ : ByteArray).size = 2 := rfl
        have s4 : (⟨#[61]⟩ : ByteArray).size = 1 := rfl
        by_cases hk0 : k = 0
        · subst hk0
          have HN : Hid (bs S ++ bs E = bs (sentC (l.take (0 + 1)))) := by
            have h1 : acc = [] := HNIL.out.2 rfl
            rw [HSN.out, if_pos h1]; unfold Hid
            have h2 : S = [] := by rw [← HS0.out, h1]; rfl
            rw [h2]
            exact bs_append [] E
          go_wp2_with fail
          all_goals (try (exfalso; simp only [size_bs] at *; omega))
          go_roundw
          case rel => exact ⟨0 + 1, by omega, by go_num, by rw [HEQ.out, HN.out], HA2, B6⟩
          case measure => simp [intOf]; omega
        · have HN : Hid (bs S ++ ⟨#[59, 32]⟩ ++ bs E = bs (sentC (l.take (k + 1)))) := by
            rw [HSN.out, if_neg (fun h => hk0 (HNIL.out.1 h))]; unfold Hid
            have h1 : bs S ++ (⟨#[59, 32]⟩ : ByteArray) = bs (S ++ [59, 32]) := bs_append S [59, 32]
            rw [h1, bs_append, List.append_assoc]
          go_wp2_with fail
          all_goals (try (exfalso; simp only [size_bs] at *; omega))
          go_roundw
          case rel => exact ⟨k + 1, by omega, by go_num, by rw [HEQ.out, HN.out], HA2, B6⟩
          case measure => simp [intOf]; omega
    · obtain rfl : k = l.length := by omega
      rw [List.take_length] at hA ⊢
      have HV : Hid (V = .tuple #[.string (bs (sentC l)), .int .i64 0]) := by rw [← hV.out]; exact printLV_ok hA.out
      go_wp2_with fail
      all_goals (try (exfalso; omega))
      go_ret2
      exact ⟨by rw [HV.out]; rfl, hB.out⟩
end Go.Proofs.YtkenianfpfamcaaGreatDoor
namespace Go.Proofs.YtkenianfpfamcaaGreatDoor
open Go Go.RowKit

theorem wpList_append_nil {P : Program} {w : World} {ops : Array Oper} {rest : List Oper} {o : Oper} {a : Act} {Q : Exit → Act → World → Prop} (hgd : o.guard = none) (s x : Operand) (t : TypeId)
    (ho : o.op = .call { callee := .builtin .append, args := #[s, x], argTypes := #[t, t] })
    (e : TypeId) (i : TypeInfo) (ht : P.underlying t = some (.slice e)) (hi : P.info? e = some i)
    {p : Option Addr} {n c c' : Nat} (hnc : n ≤ c) (hs : a.eval s = .slice p n c) (hx : a.eval x = .slice none 0 c')
    (h : wpList P ops Q rest (a.put o.dst (.slice p n c)) w) : wpList P ops Q (o :: rest) a w := by
  refine wpList_plain hgd fun _ hK => ?_
  have hr := run_append_nothing (P := P) w t t o.type e i ht hi p n c hnc (.slice none 0 c') (Src.ofNil w ht c')
  unfold Oper.wp execOp
  simp only [ho, resolve, invoke, builtin, Sem.run_bind, Sem.run_pure, Result.andThen_ok, List.map_toArray, List.map_cons, List.map_nil, hs, hx, hr]
  exact hK _ _ h
/-- 'append(v, x)' at an operation that is guarded, x a struct of two cells, v of the call's own -/
theorem append2g {P : Program} {w : World} {ops : Array Oper} {rest : List Oper} {o : Oper} {a : Act} {Q : Exit → Act → World → Prop} (hgd : Region.wanted o (yielded ops a.tmps) = true) (s x : Operand) (t : TypeId)
    (ho : o.op = .call { callee := .builtin .append, args := #[s, x], argTypes := #[t, t] })
    (base : Nat) (e : TypeId) (i : TypeInfo) (z : Value) (bytes : Nat) (ht : P.underlying t = some (.slice e)) (hi : P.info? e = some i) (hz : i.zero = some z)
    (hsize : i.size = 2) (hby : i.bytes = bytes) (hzs : z.cells.size = 2)
    {v : Value} {n : Nat} {xs : List Value} (hown : w.ownsRow base e 2 v n xs) (hs : a.eval s = v)
    (u1 u2 : Value) (hu1 : u1.oneCell' = true) (hu2 : u2.oneCell' = true) (hx : a.eval x = .slice (some ⟨w.heap.size, 0, none⟩) 1 1)
    (hn : n + 1 ≤ maxLen) (hbytes : (n + 1) * bytes ≤ 140737488355328) (hbase : base ≤ w.heap.size)
    (h : ∀ g cap w', base ≤ g → w'.ownsRow base e 2 (.slice (some ⟨g, 0, none⟩) (n + 1) cap) (n + 1) (xs ++ [u1, u2]) → Below base w w' → wpList P ops Q rest (a.put o.dst (.slice (some ⟨g, 0, none⟩) (n + 1) cap)) w') :
    wpList P ops Q (o :: rest) a (w.alloc (.cells #[u1, u2] e)) := by
  have hw : base ≤ (w.alloc (.cells #[u1, u2] e)).heap.size := by
    show base ≤ (w.heap.push _).size
    rw [Array.size_push]; omega
  refine wpList_step fun K hK => ?_
  rw [if_pos hgd]
  refine wp_append_own (w.alloc (.cells #[u1, u2] e)) s x t ho base e i z 2 bytes ht hi hz hsize hby hzs (by decide) v n xs hs (hown.alloc _) ⟨w.heap.size, 0, none⟩ 1 1 [u1, u2] hx rfl ?_ ?_ hn hbytes hw ?_
  · intro j y hj
    match j, hj with
    | 0, hj =>
      simp at hj; subst hj
      rw [Addr.add_lit]
      exact World.cell?_alloc_mark w #[u1, u2] e (0, 0) 0
    | 1, hj =>
      simp at hj; subst hj
      rw [Addr.add_lit]
      exact World.cell?_alloc_mark w #[u1, u2] e (0, 0) 1
  · intro y hy
    rcases List.mem_cons.1 hy with rfl | hy
    · exact hu1
    · rw [List.mem_singleton] at hy; subst hy; exact hu2
  · intro v' w' hown' hgrow _
    rcases hown'.2 with ⟨_, h0⟩ | ⟨g, cap, cur, rfl, hg, _⟩
    · omega
    · exact hK _ _ (h g cap w' hg hown' (((Below.refl _ _).alloc hbase _).trans (own_below (hown.alloc _) hgrow hw)))
theorem rowC_one (l : List Ck) : ∀ y ∈ rowC l, y.oneCell' = true := by
  intro y hy
  unfold rowC at hy
  obtain ⟨c, _, hc⟩ := List.mem_flatMap.1 hy
  rcases List.mem_cons.1 hc with rfl | hc
  · rfl
  · rw [List.mem_singleton] at hc; subst hc; rfl
/-- cookies appended to an empty slice of the call's own -/
theorem append_cks {w : World} {ops : Array Oper} {rest : List Oper} {o : Oper} {a : Act} {Q : Exit → Act → World → Prop} (hgd : o.guard = none) (s x : Operand)
    (ho : o.op = .call { callee := .builtin .append, args := #[s, x], argTypes := #[tCks, tCks] })
    {base : Nat} {p : Option Addr} {c : Nat} (hs : a.eval s = .slice p 0 c) (hown : w.ownsRow base tCk 2 (.slice p 0 c) 0 [])
    {q : Option Addr} {cap : Nat} {l : List Ck} (hv : Cks w q l) (hx : a.eval x = .slice q l.length cap) (hl : l.length ≤ 1073741824) (hbase : base ≤ w.heap.size)
    (h : ∀ v' w', w'.ownsRow base tCk 2 v' l.length (rowC l) → Below base w w' → wpList Tryz.prog ops Q rest (a.put o.dst v') w') : wpList Tryz.prog ops Q (o :: rest) a w := by
  obtain ⟨i0, hi, hz0, hz1, hz2⟩ := info_parts infoCk
  cases q with
  | none =>
    have hl0 : l = [] := by
      rcases hv.mem with h | ⟨_, _, h, _⟩
      · exact h
      · cases h
    subst hl0
    exact wpList_append_nil hgd s x _ ho tCk i0 Tryz.underlying22 hi (Nat.zero_le _) hs hx (h _ _ hown (Below.refl _ _))
  | some ad =>
    refine wpList_append_own_at (w := w) hgd s x _ ho base tCk i0 _ 2 32 Tryz.underlying22 hi hz0 hz1 hz2 rfl (by decide) _ 0 [] hs hown ad l.length cap (rowC l) hx (by rw [rowC_length]; omega) ?_ (rowC_one l) (by unfold maxLen; omega) (by omega) hbase ?_
    · intro j u hu
      have hj : j < 2 * l.length := by
        have := (List.getElem?_eq_some_iff.1 hu).1; rw [rowC_length] at this; exact this
      obtain ⟨b, off, hp, hlt, h1, h2⟩ := hv.get (j / 2) (by omega)
      obtain rfl : ad = ⟨b, off, none⟩ := by injection hp
      rw [Addr.add_lit]
      rcases Nat.mod_two_eq_zero_or_one j with hm | hm
      · have e : j = 2 * (j / 2) := by omega
        have e2 : j = j / 2 * 2 := by omega
        have h3 := (rowC_get l (j / 2) (by omega)).1
        rw [← e] at h3
        rw [← e2] at h1
        rw [h3] at hu
        exact h1.trans hu
      · have e : j = 2 * (j / 2) + 1 := by omega
        have e2 : j = j / 2 * 2 + 1 := by omega
        have h3 := (rowC_get l (j / 2) (by omega)).2
        rw [← e] at h3
        rw [Nat.add_assoc, ← e2] at h2
        rw [h3] at hu
        exact h2.trans hu
    · intro v' w' h2 h3 _ _
      rw [Nat.zero_add, List.nil_append] at h2
      exact h v' w' h2 (own_below hown h3 hbase)
theorem cks_prefix {w : World} {base cap : Nat} {T : TypeId} {p : Option Addr} {l m : List Ck} (h : w.ownsRow base T 2 (.slice p (l ++ m).length cap) (l ++ m).length (rowC (l ++ m))) : Cks w p l := by
  have hc := row_cks h
  constructor
  rcases hc.mem with h | ⟨g, off, h1, h2, h3⟩
  · exact Or.inl (by simp at h; exact h.1)
  · refine Or.inr ⟨g, off, h1, h2, fun k hk => ?_⟩
    have := h3 k (by rw [List.length_append]; omega)
    rw [List.getElem_append_left hk] at this
    exact this
end Go.Proofs.YtkenianfpfamcaaGreatDoor
namespace Go.Proofs.YtkenianfpfamcaaGreatDoor
open Go Go.RowKit
set_option maxHeartbeats 8000000

def spareC : Ck := ([115, 112, 97, 114, 101], [])
set_option maxRecDepth 100000 in
theorem lawCPrints_any (p : Option Addr) (cap : Nat) (l : List Ck) (w : World) (hE : EnvK w) (hC : Cks w p l) (_ : l.length ≤ cap) (hl : lenL l ≤ 1073741824) :
    Calls Tryz.prog 3 #[.slice p l.length cap] w fun e w' => e = .returned (.bool true) ∧ Below w.heap.size w w' := by
  have HA := Lib.hid (awake_any w hE)
  have HE := Lib.hid hE
  have HC := Lib.hid hC
  have hln := lenL_len l
  obtain ⟨i1, ci, cz0, cz1, cz2⟩ := info_parts infoCk
  obtain ⟨j1, ji, jz0, jz1, jz2⟩ := info_parts infoRk
  clear hE hC
  go_enter Tryz.func3, Tryz.ntmps3
  go_wp2_with fail
  refine HA.out.mono ?_; rintro e w1 ⟨rfl, hb1⟩
  have E1 := Lib.hid (HE.out.next hb1)
  have C1 := Lib.hid (HC.out.next hb1)
  have B1 := Lib.hid hb1
  clear HA HE HC hb1
  go_upto_region 3 with fail
  have F0 : (w1.alloc (.cells #[] tCk)).ownsRow w1.heap.size tCk 2 (.slice (some ⟨w1.heap.size, 0, none⟩) 0 0) 0 [] := World.ownsRow_lit w1 #[] 0 (Nat.le_refl _) (by unfold maxLen; omega) rfl
  have A1 := (Below.refl w1.heap.size w1).alloc (Nat.le_refl _) (.cells #[] tCk)
  have C2 := Lib.hid (C1.out.next A1)
  have hA := A1.size
  go_wp2_with (at_builtin; refine append_cks rfl _ _ rfl rfl F0 C2.out rfl (by omega) hA ?_)
  intro v3 w3 hown3 hb3
  have B3 := Lib.hid (A1.trans hb3)
  have HO3 := Lib.hid hown3
  clear F0 A1 hA C2 hown3 hb3
  have hB3 := B3.out.size
  go_wp2_with (at_builtin; refine append2 (by rfl) _ _ tCks (by rfl) w1.heap.size tCk i1 (.agg #[.string ⟨#[]⟩, .string ⟨#[]⟩]) 32 Tryz.underlying22 ci cz0 cz1 cz2 rfl HO3.out (by rfl) (.string ⟨#[115, 112, 97, 114, 101]⟩) (.string ⟨#[]⟩) rfl rfl (by rfl) (by unfold maxLen; omega) (by omega) hB3 ?_)
  intro g4 cap4 w4 hg4 hown4 hb4
  have O4 : w4.ownsRow w1.heap.size tCk 2 (.slice (some ⟨g4, 0, none⟩) (l ++ [spareC]).length cap4) (l ++ [spareC]).length (rowC (l ++ [spareC])) := by
    rw [List.length_append, List.length_singleton, rowC_snoc]; exact hown4
  have hcap4 : l.length + 1 ≤ cap4 := by
    rcases hown4.2 with ⟨h, _⟩ | ⟨g, c, cur, hv, _, _, hc, _⟩
    · cases h
    · injection hv with _ _ hv3; subst hv3; exact hc
  have P4 := Lib.hid (cks_prefix O4)
  have S4 := Lib.hid (row_cks O4)
  have B4 := Lib.hid (B3.out.trans hb4)
  have C4 := Lib.hid (C1.out.next B4.out)
  have E4 := Lib.hid (E1.out.next B4.out)
  have D4 := Lib.hid (B1.out.trans (B4.out.mono B1.out.size))
  clear O4 hown4 hb4 HO3 B3 hB3 C1 E1 B1 B4
  have PR := Lib.hid (fun cap' => cprint_any w4 (some ⟨g4, 0, none⟩) cap' l E4.out P4.out hl)
  go_wp2_with fail
  all_goals (try (exfalso; omega))
  refine (PR.out _).mono ?_; rintro e w5 ⟨rfl, hb5⟩
  have C5 := Lib.hid (C4.out.next hb5)
  have S5 := Lib.hid (S4.out.next hb5)
  have D5 := Lib.hid (D4.out.trans (hb5.mono D4.out.size))
  clear PR P4 S4 C4 E4 D4 hb5
  unfold printLV
  obtain ⟨X, hX⟩ := name_it (bs (if rightL l = true then sentC l else []))
  obtain ⟨Y, hY⟩ := name_it (if rightL l = true then (0 : Int) else 160)
  rw [hX.out, hY.out]
  have PL := Lib.hid (plain_law w5 p cap l C5.out (by omega))
  go_wp2_with fail
  refine PL.out.mono ?_; rintro e w6 ⟨⟨v, rfl, hrow⟩, hb6⟩
  have hrow : w6.ownsRow w5.heap.size tRk 2 v l.length (rowC l) := hrow
  obtain ⟨so, co, hout⟩ := row_slice hrow
  subst hout
  have K6 := Lib.hid (row_cks hrow)
  have C6 := Lib.hid (C5.out.next hb6)
  have S6 := Lib.hid (S5.out.next hb6)
  have D6 := Lib.hid (D5.out.trans (hb6.mono D5.out.size))
  clear PL C5 S5 D5 hrow hb6
  have RP := Lib.hid (rprintck_any w6 so co l K6.out hl)
  unfold printLV at RP
  rw [hX.out, hY.out] at RP
  go_wp2_with fail
  refine RP.out.mono ?_; rintro e w7 ⟨rfl, hb7⟩
  have C7 := Lib.hid (C6.out.next hb7)
  have S7 := Lib.hid (S6.out.next hb7)
  have D7 := Lib.hid (D6.out.trans (hb7.mono D6.out.size))
  clear RP C6 S6 D6 K6 hb7 hX hY
  have PL := Lib.hid (plain_law w7 p cap l C7.out (by omega))
  go_wp2_with fail
  all_goals (try (exfalso; omega))
  refine PL.out.mono ?_; rintro e w8 ⟨⟨v, rfl, hrow⟩, hb8⟩
  have hrow : w8.ownsRow w7.heap.size tRk 2 v l.length (rowC l) := hrow
  obtain ⟨so8, co8, hout⟩ := row_slice hrow
  subst hout
  have R8 := Lib.hid hrow
  have S8 := Lib.hid (S7.out.next hb8)
  have D8 := Lib.hid (D7.out.trans (hb8.mono D7.out.size))
  have hB8 := hb8.size
  clear PL C7 hrow
  go_wp2_with (at_builtin; refine append2g (by rfl) _ _ tRks (by rfl) w7.heap.size tRk j1 (.agg #[.string ⟨#[]⟩, .string ⟨#[]⟩]) 32 Tryz.underlying31 ji jz0 jz1 jz2 rfl R8.out (by rfl) (.string ⟨#[115, 112, 97, 114, 101]⟩) (.string ⟨#[]⟩) rfl rfl (by rfl) (by unfold maxLen; omega) (by omega) hB8 ?_)
  intro g9 cap9 w9 hg9 hown9 hb9
  have O9 : w9.ownsRow w7.heap.size tRk 2 (.slice (some ⟨g9, 0, none⟩) (l ++ [spareC]).length cap9) (l ++ [spareC]).length (rowC (l ++ [spareC])) := by
    rw [List.length_append, List.length_singleton, rowC_snoc]; exact hown9
  have K9 := Lib.hid (row_cks O9)
  have S9 := Lib.hid (S7.out.next (hb8.trans hb9))
  have D9 := Lib.hid (D7.out.trans ((hb8.trans hb9).mono D7.out.size))
  have SM := Lib.hid (same_self w9 (some ⟨g4, 0, none⟩) (some ⟨g9, 0, none⟩) cap4 cap9 (l ++ [spareC]) S9.out K9.out (by rw [List.length_append]; simp; omega))
  rw [List.length_append, List.length_singleton] at SM
  clear O9 hown9 hb9 hB8 R8 K9 S9 S8 S7 D7 D8 hb8
  go_wp2_with fail
  refine SM.out.mono ?_; rintro e w10 ⟨rfl, hb10⟩
  have D10 := Lib.hid (D9.out.trans (hb10.mono D9.out.size))
  clear SM D9 hb10
  go_wp2_with fail
  go_ret
  exact ⟨ret_bool (by simp), D10.out⟩
end Go.Proofs.YtkenianfpfamcaaGreatDoor
