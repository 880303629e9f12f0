/- How long what a server sets is, printed. The law's CookieBack. -/
import Derived.Test.YtkenianfpfamcaaGreatDoorCookWJ
import Derived.Test.YtkenianfpfamcaaGreatDoorWrapDJ
import Derived.Lib.ItoaLen
import Derived.Test.YtkenianfpfamcaaGreatDoorMo
import Derived.Test.YtkenianfpfamcaaGreatDoorMq
import Derived.Test.YtkenianfpfamcaaGreatDoorMt
import Derived.Test.YtkenianfpfamcaaGreatDoorMr
import Derived.Test.YtkenianfpfamcaaGreatDoorMs
import Derived.Deep.DeepCutAuto
namespace Go.Proofs.YtkenianfpfamcaaGreatDoor
open Go Go.RowKit

theorem ji_len (b : Bool) (t : List UInt8) : (Lib.joinTail [59, 32] (sayIf b t)).length ≤ 2 + t.length := by
  have := say_len [] b t
  rw [List.nil_append, List.length_nil] at this
  omega
theorem text_len (c : SetC) (h0 : -9223372036854775808 ≤ c.maxAge) (h1 : c.maxAge ≤ 9223372036854775807) : (textC c).length ≤ lenC c + 400 := by
  have e0 := eqC_len (c.name, c.value)
  have a1 := ji_len (decide (c.path ≠ [])) (aPath c)
  have a2 := ji_len (decide (c.domain ≠ [])) (aDomain c)
  have a3 := ji_len c.hasMax (aMax c)
  have a4 := ji_len c.hasExp (aExp c)
  have a5 := ji_len c.secure aSec
  have a6 := ji_len c.http aHttp
  have a7 := ji_len (decide (c.same = 1)) aLax
  have a8 := ji_len (decide (c.same = 2)) aStrict
  have a9 := ji_len (decide (c.same = 3)) aNone
  have b1 : (aPath c).length = 5 + c.path.length := by unfold aPath; simp; omega
  have b2 : (aDomain c).length = 7 + c.domain.length := by unfold aDomain; simp; omega
  have b3 : (aMax c).length ≤ 8 + 21 := by
    have := Lib.itoa_length_le c.maxAge h0 h1
    unfold aMax; simp; omega
  have b4 : (aExp c).length ≤ 8 + 64 := by
    have := write_le64 c.expires 0
    unfold aExp; simp; omega
  have b5 : aSec.length = 6 := rfl
  have b6 : aHttp.length = 8 := rfl
  have b7 : aLax.length = 12 := rfl
  have b8 : aStrict.length = 15 := rfl
  have b9 : aNone.length = 13 := rfl
  unfold textC attrsC
  simp only [jt_append, List.length_append]
  simp only at e0
  unfold lenC
  omega
end Go.Proofs.YtkenianfpfamcaaGreatDoor
namespace Go.Proofs.YtkenianfpfamcaaGreatDoor
open Go Go.RowKit
set_option maxHeartbeats 8000000

/-- the call's own block, the list that came in -/
structure Bk (w : World) (b : Nat) (c : SetC) (q : Option Addr) (l : List Ck) (wx : World) : Prop where
  k : CellsAt wx b (cellsS c)
  e : EnvK wx
  l : Cks wx q l
  bl : Below w.heap.size w wx
theorem Bk.next {w : World} {b : Nat} {c : SetC} {q : Option Addr} {l : List Ck} {wx wy : World} (h : Bk w b c q l wx) (hb : Below wx.heap.size wx wy) : Bk w b c q l wy :=
  ⟨h.k.next hb, h.e.next hb, h.l.next hb, h.bl.trans (hb.mono h.bl.size)⟩
theorem rightL_snoc (l : List Ck) (k : Nat) (h : k < l.length) : rightL (l.take (k + 1)) = (rightL (l.take k) && rightC l[k].1 l[k].2) := by
  rw [List.take_succ_eq_append_getElem h]
  unfold rightL
  rw [List.all_append, List.all_cons, List.all_nil, Bool.and_true]
theorem rightL_all {l : List Ck} (h : rightL l = true) : ∀ c ∈ l, rightC c.1 c.2 = true := by
  unfold rightL at h
  simpa using h
set_option maxRecDepth 100000 in
theorem lawBack_any (q : Option Addr) (cap : Nat) (l : List Ck) (c : SetC) (now : Int) (w : World) (hE : EnvK w) (hC : Cks w q l) (hl : lenL l ≤ 1048576) (hf : FitC c) (hlc : lenC c ≤ 1048576) :
    Calls Tryz.prog 4 #[.slice q l.length cap, .agg (cellsS c).toArray, .int .i64 now] w fun e w' => e = .returned (.bool true) ∧ Below w.heap.size w w' := by
  have hln := lenL_len l
  have K1 := Lib.hid (CellsAt.first w (cellsS c) tS)
  have B1 := Lib.hid (below_put2 (w := w) (cs := (cellsS c).toArray) (T := tS))
  have O1 : Hid (Bk w w.heap.size c q l (w.alloc (.cells (cellsS c).toArray tS))) := ⟨K1.out, hE.next B1.out, hC.next B1.out, B1.out⟩
  have HA := Lib.hid (fun wx (h : EnvK wx) => awake_any wx h)
  have HS := Lib.hid (fun wx => set_law c wx)
  have HW := Lib.hid (fun wx => rwrong_any c wx hf)
  have HP := Lib.hid (fun wx (h : EnvK wx) => printset_any c wx h hf)
  have TL := text_len c hf.m0 hf.m1
  have HQ := Lib.hid (fun wx (h : EnvK wx) => parseset_any (bs (textC c)) now wx h (by rw [size_bs]; omega))
  have HB : Hid (wrongC c = 0 → isMom now = true → parseSetC now (textC c) = some c) := fun h1 h2 => set_back h1 h2
  have HV : Hid (wrongC c = 0 → printSV c = .tuple #[.string (bs (textC c)), .int .i64 0]) := fun h => printSV_ok h
  simp only [L_bs] at HQ
  obtain ⟨i1, ci, cz0, cz1, cz2⟩ := info_parts infoCk
  have CF := Lib.hid (fun wx => CellsAt.first wx (cellsS c) tS)
  have CB := Lib.hid (fun (wx : World) => below_put2 (w := wx) (cs := (cellsS c).toArray) (T := tS))
  have SV : Hid (setV (some c) = .tuple #[.agg (cellsS c).toArray, .int .i64 0]) := rfl
  clear hE hC K1 B1 hf hlc TL
  obtain ⟨nm, v, p, d, ma, hm, ex, he, sc, ht, sm⟩ := c
  obtain ⟨WC, hWC⟩ := name_it (wrongC (⟨nm, v, p, d, ma, hm, ex, he, sc, ht, sm⟩ : SetC))
  obtain ⟨TX, hTX⟩ := name_it (textC (⟨nm, v, p, d, ma, hm, ex, he, sc, ht, sm⟩ : SetC))
  rw [hWC.out] at HW HB HV
  rw [hTX.out] at HQ HB HV
  clear hWC hTX
  obtain ⟨PS, hPS⟩ := name_it (printSV (⟨nm, v, p, d, ma, hm, ex, he, sc, ht, sm⟩ : SetC))
  obtain ⟨QS, hQS⟩ := name_it (parseSetC now TX)
  rw [hPS.out] at HP HV
  rw [hQS.out] at HQ HB
  clear hPS hQS
  unfold cellsS at HS HW HP SV O1 CF CB ⊢
  simp only at HS HW HP SV O1 CF CB ⊢
  have EQ : ∀ wx : World, (binOp BinOp.eql tS (.agg #[.string (bs nm), .string (bs v), .string (bs p), .string (bs d), .int .i64 ma, .bool hm, .int .i64 ex, .bool he, .bool sc, .bool ht, .int .i64 sm]) (.agg #[.string (bs nm), .string (bs v), .string (bs p), .string (bs d), .int .i64 ma, .bool hm, .int .i64 ex, .bool he, .bool sc, .bool ht, .int .i64 sm])).run Tryz.prog wx = .ok (.bool true) wx := by
    intro wx
    simp [go_sem]
  have EQ := Lib.hid EQ
  go_enter Tryz.func4, Tryz.ntmps4
  go_wp2_with fail
  obtain ⟨b, hb⟩ := name_it w.heap.size
  rw [hb.out] at O1 ⊢
  clear hb
  generalize w.alloc _ = w1 at O1 ⊢
  refine (HA.out _ O1.out.e).mono ?_; rintro e w2 ⟨rfl, hb2⟩
  have O2 := Lib.hid (O1.out.next hb2)
  clear O1 hb2 HA
  have PL := Lib.hid (fun (wx : World) (h : Cks wx q l) => plain_law wx q cap l h (by omega))
  go_wp2_with fail
  refine (PL.out _ O2.out.l).mono ?_; rintro e w3 ⟨⟨v3, rfl, hrow⟩, hb3⟩
  have hrow : w3.ownsRow w2.heap.size tRk 2 v3 l.length (rowC l) := hrow
  obtain ⟨so, co, hout⟩ := row_slice hrow
  subst hout
  have K3 := Lib.hid (row_cks hrow)
  have O3 := Lib.hid (O2.out.next hb3)
  clear O2 hrow hb3
  go_wp2_with fail
  go_loopw [7, 9, 22] (fun r _ i wr => ∃ k : Nat, k ≤ l.length ∧ i = .int .i64 k ∧ r = .bool (rightL (l.take k)) ∧ Hid (Bk w b (⟨nm, v, p, d, ma, hm, ex, he, sc, ht, sm⟩ : SetC) q l wr) ∧ Hid (Cks wr so l)) (fun _ _ i _ => l.length - (intOf i).toNat)
  case atStart => exact ⟨0, Nat.zero_le _, rfl, rfl, O3, K3⟩
  clear O3 K3
  case round => as_aux_lemma =>
  obtain ⟨k, hk, rfl, rfl, OO, KK⟩ := hrel
  obtain ⟨wq, hwq⟩ : ∃ wq, wq = wr := ⟨wr, rfl⟩
  subst hwq
  by_cases hlt : k < l.length
  · as_aux_lemma =>
    obtain ⟨g, og, rfl, hg, c0, c1⟩ := KK.out.get k hlt
    have hsn := rightL_snoc l k hlt
    have hmem := lenL_mem (List.getElem_mem hlt)
    obtain ⟨x, hx⟩ := name_it l[k]
    rw [hx.out] at c0 c1 hsn hmem
    have HR := Lib.hid (fun wx => rright_any (bs x.1) (bs x.2) wx (by rw [size_bs]; omega) (by rw [size_bs]; omega))
    simp only [L_bs] at HR
    obtain ⟨A, hA⟩ := name_it (rightL (l.take k))
    obtain ⟨B, hB⟩ := name_it (rightC x.1 x.2)
    rw [hA.out, hB.out] at hsn
    rw [hB.out] at HR
    rw [hA.out]
    have HSN := Lib.hid hsn
    clear hsn hA hB hx hmem
    go_upto_region 7 with fail
    all_goals (try (exfalso; omega))
    have KC := Lib.hid (CellsAt.first wq [.string (bs x.1), .string (bs x.2)] tRk)
    have BA := Lib.hid (below_put2 (w := wq) (cs := #[.string (bs x.1), .string (bs x.2)]) (T := tRk))
    have OO2 := Lib.hid (OO.out.next BA.out)
    have KK2 := Lib.hid (KK.out.next BA.out)
    have z0 := KC.out.at 0 _ rfl
    have z1 := KC.out.at 1 _ rfl
    clear c0 c1 BA KC OO KK
    generalize wq.alloc _ = w11 at *
    cases A with
    | false =>
      go_wp2_with fail
      go_roundw
      case rel => exact ⟨k + 1, by omega, by go_num, by rw [HSN.out]; rfl, OO2, KK2⟩
      case measure => simp [intOf]; omega
    | true =>
      go_wp2_with fail
      refine (HR.out _).mono ?_; rintro e w12 ⟨rfl, hb12⟩
      have OO3 := Lib.hid (OO2.out.next hb12)
      have KK3 := Lib.hid (KK2.out.next hb12)
      clear OO2 KK2 z0 z1 hb12
      go_wp2_with fail
      go_roundw
      case rel => exact ⟨k + 1, by omega, by go_num, by rw [HSN.out]; simp, OO3, KK3⟩
      case measure => simp [intOf]; omega
  · as_aux_lemma =>
    obtain rfl : k = l.length := by omega
    rw [List.take_length]
    clear KK
    obtain ⟨RL, hRL⟩ := name_it (rightL l)
    rw [hRL.out]
    go_upto_if 32 with fail
    all_goals (try (exfalso; omega))
    go_cut [] (fun wx => Hid (Below wq.heap.size wq wx))
    case first => as_aux_lemma =>
      clear HS HW HP HQ HB HV SV CF CB EQ
      cases RL with
      | false =>
        go_wp2_with fail
        go_meet
        case rel => exact Below.refl _ _
      | true =>
        have PS1 := Lib.hid (parse_sent l (rightL_all hRL.out))
        have PV := Lib.hid (printLV_ok hRL.out)
        have SLN := sentC_len l
        go_upto_region 10 with fail
        have F0 : (wq.alloc (.cells #[] tCk)).ownsRow wq.heap.size tCk 2 (.slice (some ⟨wq.heap.size, 0, none⟩) 0 0) 0 [] := World.ownsRow_lit wq #[] 0 (Nat.le_refl _) (by unfold maxLen; omega) rfl
        have A1 := (Below.refl wq.heap.size wq).alloc (Nat.le_refl _) (.cells #[] tCk)
        have O4 := Lib.hid (OO.out.next A1)
        have hA := A1.size
        go_wp2_with (at_builtin; refine append_cks rfl _ _ rfl rfl F0 O4.out.l rfl (by omega) hA ?_)
        intro v5 w5 hown5 hb5
        have B5 := Lib.hid (A1.trans hb5)
        have O5 := Lib.hid (OO.out.next B5.out)
        obtain ⟨so5, co5, hout5⟩ := row_slice hown5
        subst hout5
        have K5 := Lib.hid (row_cks hown5)
        have PR := Lib.hid (cprint_any w5 so5 co5 l O5.out.e K5.out (by omega))
        rw [PV.out] at PR
        clear F0 A1 O4 hA hown5 hb5 K5 PV
        go_wp2_with fail
        refine PR.out.mono ?_; rintro e w6 ⟨rfl, hb6⟩
        have O6 := Lib.hid (O5.out.next hb6)
        have B6 := Lib.hid (B5.out.trans (hb6.mono B5.out.size))
        have PP := Lib.hid (cparse_any (bs (sentC l)) w6 O6.out.e (by rw [size_bs]; omega))
        rw [L_bs, PS1.out] at PP
        simp only at PP
        clear PR O5 B5 hb6 PS1 SLN
        obtain ⟨X, hX⟩ := name_it (bs (sentC l))
        rw [hX.out] at PP ⊢
        clear hX
        go_wp2_with fail
        refine PP.out.mono ?_; rintro e w7 ⟨⟨v7, rfl, hr7⟩, hb7⟩
        have O7 := Lib.hid (O6.out.next hb7)
        have B7 := Lib.hid (B6.out.trans (hb7.mono B6.out.size))
        have hr7 : w7.ownsRow w6.heap.size tCk 2 v7 l.length (rowC l) := hr7
        obtain ⟨so7, co7, hout7⟩ := row_slice hr7
        subst hout7
        have K7 := Lib.hid (row_cks hr7)
        clear PP O6 B6 hb7 hr7
        go_wp2_with fail
        refine (PL.out _ O7.out.l).mono ?_; rintro e w8 ⟨⟨v8, rfl, hr8⟩, hb8⟩
        have hr8 : w8.ownsRow w7.heap.size tRk 2 v8 l.length (rowC l) := hr8
        obtain ⟨so8, co8, hout8⟩ := row_slice hr8
        subst hout8
        have K8 := Lib.hid (row_cks hr8)
        have K78 := Lib.hid (K7.out.next hb8)
        have B8 := Lib.hid (B7.out.trans (hb8.mono B7.out.size))
        have SM := Lib.hid (same_self w8 so7 so8 co7 co8 l K78.out K8.out (by omega))
        clear O7 B7 hb8 hr8 K7 K8 K78
        go_wp2_with fail
        refine SM.out.mono ?_; rintro e w9 ⟨rfl, hb9⟩
        have B9 := Lib.hid (B8.out.trans (hb9.mono B8.out.size))
        clear SM B8 hb9
        go_wp2_with fail
        go_meet
        case rel => exact B9
    case rest => as_aux_lemma =>
    obtain ⟨w4, hw4⟩ : ∃ w4, w4 = wc := ⟨wc, rfl⟩
    subst hw4
    have O4 := Lib.hid (OO.out.next hcut.out)
    clear OO hcut hRL
    have d0 : w4.cell? ⟨b, 0, none⟩ = some (.string (bs nm)) := O4.out.k.at 0 _ rfl
    have d1 : w4.cell? ⟨b, 1, none⟩ = some (.string (bs v)) := O4.out.k.at 1 _ rfl
    have d2 : w4.cell? ⟨b, 2, none⟩ = some (.string (bs p)) := O4.out.k.at 2 _ rfl
    have d3 : w4.cell? ⟨b, 3, none⟩ = some (.string (bs d)) := O4.out.k.at 3 _ rfl
    have d4 : w4.cell? ⟨b, 4, none⟩ = some (.int .i64 ma) := O4.out.k.at 4 _ rfl
    have d5 : w4.cell? ⟨b, 5, none⟩ = some (.bool hm) := O4.out.k.at 5 _ rfl
    have d6 : w4.cell? ⟨b, 6, none⟩ = some (.int .i64 ex) := O4.out.k.at 6 _ rfl
    have d7 : w4.cell? ⟨b, 7, none⟩ = some (.bool he) := O4.out.k.at 7 _ rfl
    have d8 : w4.cell? ⟨b, 8, none⟩ = some (.bool sc) := O4.out.k.at 8 _ rfl
    have d9 : w4.cell? ⟨b, 9, none⟩ = some (.bool ht) := O4.out.k.at 9 _ rfl
    have d10 : w4.cell? ⟨b, 10, none⟩ = some (.int .i64 sm) := O4.out.k.at 10 _ rfl
    go_upto_region 14 with fail
    go_cut [69] (fun t wx => t = .bool (!decide (WC = 0) || (decide (now < -62135596800) || decide (253402300799 < now))) ∧ Hid (Below w4.heap.size w4 wx))
    case first => as_aux_lemma =>
      clear HP HQ HB HV SV CF CB EQ PL
      have hw0 : (WC == 0) = decide (WC = 0) := by rw [Bool.eq_iff_iff]; simp
      go_wp2_with fail
      refine (HS.out _).mono ?_; rintro e w5 ⟨rfl, hb5⟩
      have B5 := Lib.hid hb5
      clear HS hb5
      go_wp2_with fail
      refine (HW.out _).mono ?_; rintro e w6 ⟨rfl, hb6⟩
      have B6 := Lib.hid (B5.out.trans (hb6.mono B5.out.size))
      clear HW hb6 B5 O4 d0 d1 d2 d3 d4 d5 d6 d7 d8 d9 d10
      by_cases h1 : WC = 0
      · have h1b : (WC == 0) = true := by rw [hw0]; exact decide_eq_true h1
        have HWC := Lib.hid h1
        clear hw0 h1
        go_wp2_with fail
        all_goals
          go_meet
          case rel => exact ⟨by rw [HWC.out]; simp [*] <;> omega, B6⟩
      · have h1b : (WC == 0) = false := by rw [hw0]; exact decide_eq_false h1
        have HWC := Lib.hid h1
        clear hw0 h1
        go_wp2_with fail
        go_meet
        case rel => exact ⟨by rw [decide_eq_false HWC.out]; simp, B6⟩
    case rest => as_aux_lemma =>
    obtain ⟨rfl, hb5⟩ := hcut
    obtain ⟨w5, hw5⟩ : ∃ w5, w5 = wc := ⟨wc, rfl⟩
    subst hw5
    have O5 := Lib.hid (O4.out.next hb5.out)
    clear O4 hb5 HS HW PL d0 d1 d2 d3 d4 d5 d6 d7 d8 d9 d10
    cases hT : (!decide (WC = 0) || (decide (now < -62135596800) || decide (253402300799 < now)))
    rotate_left
    · clear hT HP HQ HB HV SV CF CB EQ
      go_wp2_with fail
      go_ret
      exact ⟨rfl, O5.out.bl⟩
    · have hT2 : WC = 0 ∧ ¬ now < -62135596800 ∧ ¬ 253402300799 < now := by simpa using hT
      have hmom : isMom now = true := by unfold isMom; simp; omega
      rw [HV.out hT2.1] at HP
      rw [HB.out hT2.1 hmom, SV.out] at HQ
      clear hT hmom hT2 HV HB SV
      have d0 : w5.cell? ⟨b, 0, none⟩ = some (.string (bs nm)) := O5.out.k.at 0 _ rfl
      have d1 : w5.cell? ⟨b, 1, none⟩ = some (.string (bs v)) := O5.out.k.at 1 _ rfl
      have d2 : w5.cell? ⟨b, 2, none⟩ = some (.string (bs p)) := O5.out.k.at 2 _ rfl
      have d3 : w5.cell? ⟨b, 3, none⟩ = some (.string (bs d)) := O5.out.k.at 3 _ rfl
      have d4 : w5.cell? ⟨b, 4, none⟩ = some (.int .i64 ma) := O5.out.k.at 4 _ rfl
      have d5 : w5.cell? ⟨b, 5, none⟩ = some (.bool hm) := O5.out.k.at 5 _ rfl
      have d6 : w5.cell? ⟨b, 6, none⟩ = some (.int .i64 ex) := O5.out.k.at 6 _ rfl
      have d7 : w5.cell? ⟨b, 7, none⟩ = some (.bool he) := O5.out.k.at 7 _ rfl
      have d8 : w5.cell? ⟨b, 8, none⟩ = some (.bool sc) := O5.out.k.at 8 _ rfl
      have d9 : w5.cell? ⟨b, 9, none⟩ = some (.bool ht) := O5.out.k.at 9 _ rfl
      have d10 : w5.cell? ⟨b, 10, none⟩ = some (.int .i64 sm) := O5.out.k.at 10 _ rfl
      go_wp2_with fail
      refine (HP.out _ O5.out.e).mono ?_; rintro e w6 ⟨rfl, hb6⟩
      have O6 := Lib.hid (O5.out.next hb6)
      clear O5 hb6 HP d0 d1 d2 d3 d4 d5 d6 d7 d8 d9 d10
      go_wp2_with fail
      refine (HQ.out _ O6.out.e).mono ?_; rintro e w7 ⟨rfl, hb7⟩
      have O7 := Lib.hid (O6.out.next hb7)
      clear O6 hb7 HQ
      have O8 := Lib.hid (O7.out.next (CB.out w7))
      have K8 := Lib.hid (CF.out w7)
      clear O7 CF CB
      go_upto_region 20 with fail
      generalize w7.alloc _ = w8 at O8 K8 ⊢
      have d0 : w8.cell? ⟨b, 0, none⟩ = some (.string (bs nm)) := O8.out.k.at 0 _ rfl
      have d1 : w8.cell? ⟨b, 1, none⟩ = some (.string (bs v)) := O8.out.k.at 1 _ rfl
      have d2 : w8.cell? ⟨b, 2, none⟩ = some (.string (bs p)) := O8.out.k.at 2 _ rfl
      have d3 : w8.cell? ⟨b, 3, none⟩ = some (.string (bs d)) := O8.out.k.at 3 _ rfl
      have d4 : w8.cell? ⟨b, 4, none⟩ = some (.int .i64 ma) := O8.out.k.at 4 _ rfl
      have d5 : w8.cell? ⟨b, 5, none⟩ = some (.bool hm) := O8.out.k.at 5 _ rfl
      have d6 : w8.cell? ⟨b, 6, none⟩ = some (.int .i64 ex) := O8.out.k.at 6 _ rfl
      have d7 : w8.cell? ⟨b, 7, none⟩ = some (.bool he) := O8.out.k.at 7 _ rfl
      have d8 : w8.cell? ⟨b, 8, none⟩ = some (.bool sc) := O8.out.k.at 8 _ rfl
      have d9 : w8.cell? ⟨b, 9, none⟩ = some (.bool ht) := O8.out.k.at 9 _ rfl
      have d10 : w8.cell? ⟨b, 10, none⟩ = some (.int .i64 sm) := O8.out.k.at 10 _ rfl
      have f0 : w8.cell? ⟨w7.heap.size, 0, none⟩ = some (.string (bs nm)) := K8.out.at 0 _ rfl
      have f1 : w8.cell? ⟨w7.heap.size, 1, none⟩ = some (.string (bs v)) := K8.out.at 1 _ rfl
      have f2 : w8.cell? ⟨w7.heap.size, 2, none⟩ = some (.string (bs p)) := K8.out.at 2 _ rfl
      have f3 : w8.cell? ⟨w7.heap.size, 3, none⟩ = some (.string (bs d)) := K8.out.at 3 _ rfl
      have f4 : w8.cell? ⟨w7.heap.size, 4, none⟩ = some (.int .i64 ma) := K8.out.at 4 _ rfl
      have f5 : w8.cell? ⟨w7.heap.size, 5, none⟩ = some (.bool hm) := K8.out.at 5 _ rfl
      have f6 : w8.cell? ⟨w7.heap.size, 6, none⟩ = some (.int .i64 ex) := K8.out.at 6 _ rfl
      have f7 : w8.cell? ⟨w7.heap.size, 7, none⟩ = some (.bool he) := K8.out.at 7 _ rfl
      have f8 : w8.cell? ⟨w7.heap.size, 8, none⟩ = some (.bool sc) := K8.out.at 8 _ rfl
      have f9 : w8.cell? ⟨w7.heap.size, 9, none⟩ = some (.bool ht) := K8.out.at 9 _ rfl
      have f10 : w8.cell? ⟨w7.heap.size, 10, none⟩ = some (.int .i64 sm) := K8.out.at 10 _ rfl
      have EQ2 := EQ.out
      go_wp2_with fail
      go_ret
      exact ⟨ret_bool (by simp), O8.out.bl⟩
end Go.Proofs.YtkenianfpfamcaaGreatDoor
