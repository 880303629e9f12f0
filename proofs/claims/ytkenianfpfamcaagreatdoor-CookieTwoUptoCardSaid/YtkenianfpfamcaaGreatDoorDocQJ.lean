/- Contract of the document's Get. -/
import Derived.Test.YtkenianfpfamcaaGreatDoorDocQaJ
namespace Go.Proofs.YtkenianfpfamcaaGreatDoor
open Go Go.RowKit
set_option maxHeartbeats 64000000

/-- what is found among the first k, in its order -/
def fndK (l : List Kp) (host path : List UInt8) (secure : Bool) (now : Int) (k : Nat) : List Kp := (((l.take k).filter (hereC host path secure now)).foldl (fun acc x => insRev ltK x acc) []).reverse
theorem fndK_all (l : List Kp) (host path : List UInt8) (secure : Bool) (now : Int) : (fndK l host path secure now l.length).map (fun k => (k.c.name, k.c.value)) = getJ l host path secure now := by
  unfold fndK getJ insAll
  rw [List.take_length]
theorem fndK_no {l : List Kp} {host path : List UInt8} {secure : Bool} {now : Int} {k : Nat} (hk : k < l.length) (h : hereC host path secure now l[k] = false) : fndK l host path secure now (k + 1) = fndK l host path secure now k := by
  unfold fndK
  rw [List.take_succ_eq_append_getElem hk, List.filter_append, List.filter_cons, List.filter_nil, h]
  simp
theorem fndK_yes {l : List Kp} {host path : List UInt8} {secure : Bool} {now : Int} {k : Nat} (hk : k < l.length) (h : hereC host path secure now l[k] = true) : fndK l host path secure now (k + 1) = (insRev ltK l[k] (fndK l host path secure now k).reverse).reverse := by
  unfold fndK
  rw [List.take_succ_eq_append_getElem hk, List.filter_append, List.filter_cons, List.filter_nil, h]
  simp
theorem fndK_len (l : List Kp) (host path : List UInt8) (secure : Bool) (now : Int) (k : Nat) : (fndK l host path secure now k).length ≤ k := by
  have h : ∀ (m acc : List Kp), (m.foldl (fun acc x => insRev ltK x acc) acc).length = m.length + acc.length := by
    intro m
    induction m with
    | nil => intro acc; simp
    | cons x m ih => intro acc; rw [List.foldl_cons, ih, insRev_length, List.length_cons]; omega
  unfold fndK
  rw [List.length_reverse, h, List.length_nil]
  exact Nat.le_trans (List.length_filter_le _ _) (by rw [List.length_take]; omega)
/-- does it go on? -/
def goK (k : Kp) : List Kp → Bool
  | [] => false
  | x :: _ => ltK k x
theorem ins_stop {x k : Kp} {r : List Kp} (h : ltK k x = false) : insRev ltK k (x :: r) = k :: x :: r := by rw [insRev, if_neg (by rw [h]; decide)]
theorem ins_go {x k : Kp} {r : List Kp} (h : ltK k x = true) : insRev ltK k (x :: r) = x :: insRev ltK k r := by rw [insRev, if_pos h]
set_option maxRecDepth 100000 in
theorem rget_any (most : Int) (p : Option Addr) (cap : Nat) (l : List Kp) (host path : List UInt8) (sec : Bool) (now : Int) (w : World) (hL : KpL w p l) (hl : l.length ≤ 3000) (hh : host.length ≤ 1073741824) (hp : path.length ≤ 1073741824)
    (hfit : ∀ k ∈ l, k.dom.length ≤ 1073741824 ∧ k.path.length ≤ 1073741824) :
    Calls Tryz.prog 29 #[.agg #[.int .i64 most, .slice p l.length cap], .agg #[.string (bs host), .string (bs path), .bool sec, .int .i64 now]] w fun e w' => (∃ v, e = .returned v ∧ RkRow w' w.heap.size v (getJ l host path sec now)) ∧ Below w.heap.size w w' := by
  have K1 := CellsAt.first w [.int .i64 most, .slice p l.length cap] tRJ
  have B1 := below_put2 (w := w) (cs := #[.int .i64 most, .slice p l.length cap]) (T := tRJ)
  have s1 : (w.alloc (.cells #[.int .i64 most, .slice p l.length cap] tRJ)).heap.size = w.heap.size + 1 := by show (w.heap.push _).size = _; rw [Array.size_push]
  have K2 := Lib.hid (CellsAt.first (w.alloc (.cells #[.int .i64 most, .slice p l.length cap] tRJ)) [.string (bs host), .string (bs path), .bool sec, .int .i64 now] tLn)
  have b2 := below_put2 (w := w.alloc (.cells #[.int .i64 most, .slice p l.length cap] tRJ)) (cs := #[.string (bs host), .string (bs path), .bool sec, .int .i64 now]) (T := tLn)
  have K1 := Lib.hid (K1.next b2)
  have B2 := Lib.hid (B1.trans (b2.mono B1.size))
  have L2 := Lib.hid (hL.next B2.out)
  have HFIT := Lib.hid hfit
  rw [s1] at K2
  obtain ⟨i1, ci, cz0, cz1, cz2⟩ := info_parts infoKp
  have HFA := Lib.hid (fndK_all l host path sec now)
  obtain ⟨RES, hRES⟩ := name_it (getJ l host path sec now)
  rw [hRES.out] at HFA ⊢
  clear hL B1 s1 b2 hfit hRES
  go_enter Tryz.func29, Tryz.ntmps29
  go_upto_region 2 with fail
  obtain ⟨b, hb⟩ := name_it w.heap.size
  have HB : Hid (w.heap.size = b) := hb.out
  rw [hb.out] at K1 K2 ⊢
  clear hb
  generalize World.alloc _ _ = w1 at K1 K2 B2 L2 ⊢
  have j1 := K1.out.at 1 _ rfl
  have LB : Hid (b + 1 < w1.heap.size) := K2.out.lt
  go_wp2_with fail
  have R0 : Hid (w1.ownsRow w1.heap.size tKp 15 (.slice none 0 0) (fndK l host path sec now 0).length (flat cellsP (fndK l host path sec now 0))) := World.ownsRow_nil ..
  go_loopw [5, 7, 8, 9, 16] (fun out _ _ _ i wr => ∃ k : Nat, k ≤ l.length ∧ i = .int .i64 k ∧ Hid (wr.ownsRow w1.heap.size tKp 15 out (fndK l host path sec now k).length (flat cellsP (fndK l host path sec now k))) ∧ Hid (Below w1.heap.size w1 wr)) (fun _ _ _ _ i _ => l.length - (intOf i).toNat)
  case atStart => exact ⟨0, Nat.zero_le _, rfl, R0, Below.refl _ _⟩
  clear R0 j1
  case round =>
    obtain ⟨k, hk, rfl, hR, hB⟩ := hrel
    obtain ⟨wq, hwq⟩ : ∃ wq, wq = wr := ⟨wr, rfl⟩
    subst hwq
    by_cases hlt : k < l.length
    · obtain ⟨g, off, rfl, hg, hc⟩ := (L2.out.next hB.out).get k hlt
      have FNO := Lib.hid (@fndK_no l host path sec now k hlt)
      have FYES := Lib.hid (@fndK_yes l host path sec now k hlt)
      have HFX := HFIT.out l[k] (List.getElem_mem hlt)
      have HLK := Lib.hid (fndK_len l host path sec now k)
      have HH : Hid (hereC host path sec now l[k] = (((decide (l[k].dom = host) || (decide (l[k].c.domain ≠ []) && belongsC host l[k].dom)) && (underC path l[k].path && (sec || !l[k].c.secure))) && !l[k].over now)) := rfl
      obtain ⟨x, hx⟩ := name_it l[k]
      rw [hx.out] at hc FNO FYES HFX HH
      obtain ⟨acc, hacc⟩ := name_it (fndK l host path sec now k)
      rw [hacc.out] at hR FNO FYES HLK
      obtain ⟨so2, co2, hout2⟩ := row_slice hR.out
      subst hout2
      have OV := Lib.hid (fun wx => rover_any x now wx)
      have BG := Lib.hid (fun wx => rbelongs_any (bs host) (bs x.dom) wx (by rw [size_bs]; exact hh) (by rw [size_bs]; exact HFX.1))
      have UN := Lib.hid (fun wx => runder_any (bs path) (bs x.path) wx (by rw [size_bs]; exact hp) (by rw [size_bs]; exact HFX.2))
      simp only [L_bs] at BG UN
      obtain ⟨qo, hqo⟩ := name_it (x.over now)
      obtain ⟨qb, hqb⟩ := name_it (belongsC host x.dom)
      obtain ⟨qu, hqu⟩ := name_it (underC path x.path)
      rw [hqo.out] at OV HH
      rw [hqb.out] at BG HH
      rw [hqu.out] at UN HH
      clear hx hacc hqo hqb hqu HFX
      obtain ⟨⟨nm, v, pp, d, ma, hm, ex, he, sc, ht, sm⟩, dom, kp, till, ends⟩ := x
      have z0 : wq.cell? ⟨g, off + k * 15, none⟩ = some (.string (bs nm)) := hc 0 _ (by decide) rfl
      have z1 : wq.cell? ⟨g, off + k * 15 + 1, none⟩ = some (.string (bs v)) := hc 1 _ (by decide) rfl
      have z2 : wq.cell? ⟨g, off + k * 15 + 2, none⟩ = some (.string (bs pp)) := hc 2 _ (by decide) rfl
      have z3 : wq.cell? ⟨g, off + k * 15 + 3, none⟩ = some (.string (bs d)) := hc 3 _ (by decide) rfl
      have z4 : wq.cell? ⟨g, off + k * 15 + 4, none⟩ = some (.int .i64 ma) := hc 4 _ (by decide) rfl
      have z5 : wq.cell? ⟨g, off + k * 15 + 5, none⟩ = some (.bool hm) := hc 5 _ (by decide) rfl
      have z6 : wq.cell? ⟨g, off + k * 15 + 6, none⟩ = some (.int .i64 ex) := hc 6 _ (by decide) rfl
      have z7 : wq.cell? ⟨g, off + k * 15 + 7, none⟩ = some (.bool he) := hc 7 _ (by decide) rfl
      have z8 : wq.cell? ⟨g, off + k * 15 + 8, none⟩ = some (.bool sc) := hc 8 _ (by decide) rfl
      have z9 : wq.cell? ⟨g, off + k * 15 + 9, none⟩ = some (.bool ht) := hc 9 _ (by decide) rfl
      have z10 : wq.cell? ⟨g, off + k * 15 + 10, none⟩ = some (.int .i64 sm) := hc 10 _ (by decide) rfl
      have z11 : wq.cell? ⟨g, off + k * 15 + 11, none⟩ = some (.string (bs dom)) := hc 11 _ (by decide) rfl
      have z12 : wq.cell? ⟨g, off + k * 15 + 12, none⟩ = some (.string (bs kp)) := hc 12 _ (by decide) rfl
      have z13 : wq.cell? ⟨g, off + k * 15 + 13, none⟩ = some (.int .i64 till) := hc 13 _ (by decide) rfl
      have z14 : wq.cell? ⟨g, off + k * 15 + 14, none⟩ = some (.bool ends) := hc 14 _ (by decide) rfl
      unfold cellsP cellsS at OV
      simp only [List.cons_append, List.nil_append] at OV
      simp only at BG UN HH
      clear hc
      go_upto_region 5 with fail
      all_goals (try (exfalso; omega))
      have KC := Lib.hid (CellsAt.first wq (cellsP ⟨⟨nm, v, pp, d, ma, hm, ex, he, sc, ht, sm⟩, dom, kp, till, ends⟩) tKp)
      have bb := Lib.hid (below_put2 (w := wq) (cs := (cellsP ⟨⟨nm, v, pp, d, ma, hm, ex, he, sc, ht, sm⟩, dom, kp, till, ends⟩).toArray) (T := tKp))
      have BA := Lib.hid (hB.out.trans (bb.out.mono hB.out.size))
      have RA := Lib.hid (row_kept hR.out (fun g hg => bb.out.block g (World.ownsRow.lt hR.out g hg).2))
      have KX := Lib.hid ((K2.out.next hB.out).next bb.out)
      have KC : Hid (CellsAt (wq.alloc (.cells #[.string (bs nm), .string (bs v), .string (bs pp), .string (bs d), .int .i64 ma, .bool hm, .int .i64 ex, .bool he, .bool sc, .bool ht, .int .i64 sm, .string (bs dom), .string (bs kp), .int .i64 till, .bool ends] tKp)) wq.heap.size (cellsP ⟨⟨nm, v, pp, d, ma, hm, ex, he, sc, ht, sm⟩, dom, kp, till, ends⟩)) := KC
      have BA : Hid (Below w1.heap.size w1 (wq.alloc (.cells #[.string (bs nm), .string (bs v), .string (bs pp), .string (bs d), .int .i64 ma, .bool hm, .int .i64 ex, .bool he, .bool sc, .bool ht, .int .i64 sm, .string (bs dom), .string (bs kp), .int .i64 till, .bool ends] tKp))) := BA
      have KX : Hid (CellsAt (wq.alloc (.cells #[.string (bs nm), .string (bs v), .string (bs pp), .string (bs d), .int .i64 ma, .bool hm, .int .i64 ex, .bool he, .bool sc, .bool ht, .int .i64 sm, .string (bs dom), .string (bs kp), .int .i64 till, .bool ends] tKp)) (b + 1) [.string (bs host), .string (bs path), .bool sec, .int .i64 now]) := KX
      have RA : Hid ((wq.alloc (.cells #[.string (bs nm), .string (bs v), .string (bs pp), .string (bs d), .int .i64 ma, .bool hm, .int .i64 ex, .bool he, .bool sc, .bool ht, .int .i64 sm, .string (bs dom), .string (bs kp), .int .i64 till, .bool ends] tKp)).ownsRow w1.heap.size tKp 15 (.slice so2 acc.length co2) acc.length (flat cellsP acc)) := RA
      have GM : Hid (∀ g, (Value.slice so2 acc.length co2).ownBlock = some g → g < wq.heap.size) := fun g hg => (World.ownsRow.lt hR.out g hg).2
      have GW : Hid (w1.heap.size ≤ wq.heap.size) := hB.out.size
      clear z0 z1 z2 z3 z4 z5 z6 z7 z8 z9 z10 z11 z12 z13 z14 hB hR bb
      obtain ⟨m, hm'⟩ := name_it wq.heap.size
      rw [hm'.out] at KC GM GW ⊢
      clear hm'
      generalize wq.alloc _ = w5 at KC BA RA KX ⊢
      have c0 : w5.cell? ⟨m, 0, none⟩ = some (.string (bs nm)) := KC.out.at 0 _ rfl
      have c1 : w5.cell? ⟨m, 1, none⟩ = some (.string (bs v)) := KC.out.at 1 _ rfl
      have c2 : w5.cell? ⟨m, 2, none⟩ = some (.string (bs pp)) := KC.out.at 2 _ rfl
      have c3 : w5.cell? ⟨m, 3, none⟩ = some (.string (bs d)) := KC.out.at 3 _ rfl
      have c4 : w5.cell? ⟨m, 4, none⟩ = some (.int .i64 ma) := KC.out.at 4 _ rfl
      have c5 : w5.cell? ⟨m, 5, none⟩ = some (.bool hm) := KC.out.at 5 _ rfl
      have c6 : w5.cell? ⟨m, 6, none⟩ = some (.int .i64 ex) := KC.out.at 6 _ rfl
      have c7 : w5.cell? ⟨m, 7, none⟩ = some (.bool he) := KC.out.at 7 _ rfl
      have c8 : w5.cell? ⟨m, 8, none⟩ = some (.bool sc) := KC.out.at 8 _ rfl
      have c9 : w5.cell? ⟨m, 9, none⟩ = some (.bool ht) := KC.out.at 9 _ rfl
      have c10 : w5.cell? ⟨m, 10, none⟩ = some (.int .i64 sm) := KC.out.at 10 _ rfl
      have c11 : w5.cell? ⟨m, 11, none⟩ = some (.string (bs dom)) := KC.out.at 11 _ rfl
      have c12 : w5.cell? ⟨m, 12, none⟩ = some (.string (bs kp)) := KC.out.at 12 _ rfl
      have c13 : w5.cell? ⟨m, 13, none⟩ = some (.int .i64 till) := KC.out.at 13 _ rfl
      have c14 : w5.cell? ⟨m, 14, none⟩ = some (.bool ends) := KC.out.at 14 _ rfl
      have x0 := KX.out.at 0 _ rfl
      have x1 := KX.out.at 1 _ rfl
      have x2 := KX.out.at 2 _ rfl
      have x3 := KX.out.at 3 _ rfl
      have HQD : Hid (decide (dom = host) = ((bs dom).toList == (bs host).toList)) := by
        unfold Hid
        rw [Bool.eq_iff_iff]
        simp only [decide_eq_true_eq, beq_iff_eq, toList_iff]
      have HDE : (bs d).toList.isEmpty = !(decide (d ≠ [])) := by have := str_empty (bs d); rw [L_bs] at this; rw [this, decide_not, Bool.not_not]
      rw [HQD.out] at HH
      obtain ⟨qd, e0⟩ : ∃ q, ((bs dom).toList == (bs host).toList) = q := ⟨_, rfl⟩
      obtain ⟨qt, hqt⟩ := name_it (decide (d ≠ []))
      rw [e0, hqt.out] at HH
      rw [hqt.out] at HDE
      clear hqt HQD
      go_cut [8] (fun s wx => s = .bool (qd || (qt && qb)) ∧ wx = w5)
      case first => as_aux_lemma =>
        clear OV UN HH
        cases qd with
        | true =>
          go_wp2_with fail
          go_meet
          case rel => exact ⟨by simp, rfl⟩
        | false =>
          cases qt with
          | false =>
            go_wp2_with fail
            go_meet
            case rel => exact ⟨by simp, rfl⟩
          | true =>
            go_wp2_with fail
            refine (BG.out _).mono ?_; rintro e w' ⟨rfl, rfl⟩
            go_wp2_with fail
            go_meet
            case rel => exact ⟨by simp, rfl⟩
      case rest =>
      obtain ⟨rfl, hwc⟩ := hcut
      rw [hwc]
      clear hwc e0 HDE BG
      obtain ⟨QH, hQH⟩ := name_it (qd || (qt && qb))
      rw [hQH.out] at HH ⊢
      clear hQH
      obtain ⟨HR, hHR⟩ := name_it (hereC host path sec now ⟨⟨nm, v, pp, d, ma, hm, ex, he, sc, ht, sm⟩, dom, kp, till, ends⟩)
      have HHR : Hid (HR = ((QH && (qu && (sec || !sc))) && !qo)) := by rw [← hHR.out]; exact HH.out
      rw [hHR.out] at FNO FYES
      clear HH hHR
      go_upto_region 6 with fail
      go_cut [63] (fun t wx => t = .bool (!((QH && (qu && (sec || !sc))) && !qo)) ∧ Hid (Below w5.heap.size w5 wx))
      case first => as_aux_lemma =>
        go_wp2_with fail
        refine (OV.out _).mono ?_; rintro e w6 ⟨rfl, hb6⟩
        have KC6 := Lib.hid (KC.out.next hb6)
        have KX6 := Lib.hid (KX.out.next hb6)
        have B6 := Lib.hid hb6
        clear KC KX BA RA OV HHR FNO FYES hb6 x0 x1 x2 x3 c0 c1 c2 c3 c4 c5 c6 c7 c8 c9 c10 c11 c12 c13 c14
        have c8 : w6.cell? ⟨m, 8, none⟩ = some (.bool sc) := KC6.out.at 8 _ rfl
        have c12 : w6.cell? ⟨m, 12, none⟩ = some (.string (bs kp)) := KC6.out.at 12 _ rfl
        have x1 := KX6.out.at 1 _ rfl
        have x2 := KX6.out.at 2 _ rfl
        cases qo with
        | true =>
          go_wp2_with fail
          go_meet
          case rel => exact ⟨by simp, B6⟩
        | false =>
          cases QH with
          | false =>
            go_wp2_with fail
            go_meet
            case rel => exact ⟨by simp, B6⟩
          | true =>
            go_wp2_with fail
            refine (UN.out _).mono ?_; rintro e w' ⟨rfl, rfl⟩
            clear UN
            cases qu <;> cases sc <;> cases sec
            all_goals
              go_wp2_with fail
              go_meet
              case rel => exact ⟨by simp, B6⟩
      case rest =>
      obtain ⟨rfl, hb6⟩ := hcut
      obtain ⟨w6, hw6⟩ : ∃ w6, w6 = wc := ⟨wc, rfl⟩
      subst hw6
      rw [← HHR.out]
      have KC6 := Lib.hid (KC.out.next hb6.out)
      have B6 := Lib.hid (BA.out.trans (hb6.out.mono BA.out.size))
      have R6 := Lib.hid (row_kept RA.out (fun g hg => hb6.out.block g (World.ownsRow.lt RA.out g hg).2))
      clear KC KX BA RA OV UN HHR hb6 x0 x1 x2 x3 c0 c1 c2 c3 c4 c5 c6 c7 c8 c9 c10 c11 c12 c13 c14
      cases HR with
      | false =>
        have R9 : Hid (w6.ownsRow w1.heap.size tKp 15 (.slice so2 acc.length co2) (fndK l host path sec now (k + 1)).length (flat cellsP (fndK l host path sec now (k + 1)))) := by rw [FNO.out rfl]; exact R6
        clear R6 FNO FYES
        go_wp2_with fail
        go_roundw
        case rel => exact ⟨k + 1, by omega, by go_num, R9, B6⟩
        case measure => simp [intOf]; omega
      | true =>
        have FY := Lib.hid (FYES.out rfl)
        clear FNO FYES
        have c0 : w6.cell? ⟨m, 0, none⟩ = some (.string (bs nm)) := KC6.out.at 0 _ rfl
        have c1 : w6.cell? ⟨m, 1, none⟩ = some (.string (bs v)) := KC6.out.at 1 _ rfl
        have c2 : w6.cell? ⟨m, 2, none⟩ = some (.string (bs pp)) := KC6.out.at 2 _ rfl
        have c3 : w6.cell? ⟨m, 3, none⟩ = some (.string (bs d)) := KC6.out.at 3 _ rfl
        have c4 : w6.cell? ⟨m, 4, none⟩ = some (.int .i64 ma) := KC6.out.at 4 _ rfl
        have c5 : w6.cell? ⟨m, 5, none⟩ = some (.bool hm) := KC6.out.at 5 _ rfl
        have c6 : w6.cell? ⟨m, 6, none⟩ = some (.int .i64 ex) := KC6.out.at 6 _ rfl
        have c7 : w6.cell? ⟨m, 7, none⟩ = some (.bool he) := KC6.out.at 7 _ rfl
        have c8 : w6.cell? ⟨m, 8, none⟩ = some (.bool sc) := KC6.out.at 8 _ rfl
        have c9 : w6.cell? ⟨m, 9, none⟩ = some (.bool ht) := KC6.out.at 9 _ rfl
        have c10 : w6.cell? ⟨m, 10, none⟩ = some (.int .i64 sm) := KC6.out.at 10 _ rfl
        have c11 : w6.cell? ⟨m, 11, none⟩ = some (.string (bs dom)) := KC6.out.at 11 _ rfl
        have c12 : w6.cell? ⟨m, 12, none⟩ = some (.string (bs kp)) := KC6.out.at 12 _ rfl
        have c13 : w6.cell? ⟨m, 13, none⟩ = some (.int .i64 till) := KC6.out.at 13 _ rfl
        have c14 : w6.cell? ⟨m, 14, none⟩ = some (.bool ends) := KC6.out.at 14 _ rfl
        have hBd : w1.heap.size ≤ w6.heap.size := B6.out.size
        have hal : acc.length ≤ 3000 := by have := HLK.out; omega
        go_wp2_with (at_builtin; refine appendK (by rfl) _ _ 55 (by rfl) w1.heap.size tKp i1 (.agg #[.string ⟨#[]⟩, .string ⟨#[]⟩, .string ⟨#[]⟩, .string ⟨#[]⟩, .int .i64 0, .bool false, .int .i64 0, .bool false, .bool false, .bool false, .int .i64 0, .string ⟨#[]⟩, .string ⟨#[]⟩, .int .i64 0, .bool false]) 15 152 Tryz.underlying55 ci cz0 cz1 cz2 rfl (by decide) R6.out (by rfl) (cellsP ⟨⟨nm, v, pp, d, ma, hm, ex, he, sc, ht, sm⟩, dom, kp, till, ends⟩) rfl (cellsP_one _) (by rfl) (by unfold maxLen; omega) (by omega) hBd ?_)
        all_goals (try (exfalso; omega))
        intro g8 cap8 w8 hg8 hown8 hb8 hat8 hk8
        have Q8 : Hid (w8.ownsRow w1.heap.size tKp 15 (.slice (some ⟨g8, 0, none⟩) (acc.length + 1) cap8) (acc.length + 1) (flat cellsP (acc ++ [⟨⟨nm, v, pp, d, ma, hm, ex, he, sc, ht, sm⟩, dom, kp, till, ends⟩]))) := by rw [flat_snoc]; exact hown8
        have KC8 := Lib.hid (KC6.out.keeps hk8 (fun h => by have := GM.out m h; omega))
        have NE : Hid (m ≠ g8) := fun e => by
          rcases hat8 with h | h
          · have := GM.out g8 h; omega
          · have := KC6.out.lt; omega
        have B8 := Lib.hid (B6.out.trans hb8)
        have HG8 := Lib.hid hg8
        have FLN : Hid ((fndK l host path sec now (k + 1)).length = acc.length + 1) := by
          unfold Hid
          rw [FY.out, List.length_reverse, insRev_length, List.length_reverse]
        clear hown8 hb8 hat8 hk8 hg8 KC6 R6 B6 GM hBd c0 c1 c2 c3 c4 c5 c6 c7 c8 c9 c10 c11 c12 c13 c14
        go_wp2_with fail
        go_loopw [9] (fun i wi => ∃ (r : List Kp) (h : Kp) (R : List Kp), i = .int .i64 r.length ∧ Hid (r.length + R.length = acc.length) ∧ Hid (wi.ownsRow w1.heap.size tKp 15 (.slice (some ⟨g8, 0, none⟩) (acc.length + 1) cap8) (acc.length + 1) (flat cellsP (r.reverse ++ h :: R))) ∧ Hid ((insRev ltK ⟨⟨nm, v, pp, d, ma, hm, ex, he, sc, ht, sm⟩, dom, kp, till, ends⟩ r).reverse ++ R = fndK l host path sec now (k + 1)) ∧ Hid (Keeps (fun j => j = g8) w8 wi)) (fun i _ => (intOf i).toNat)
        case atStart =>
          refine ⟨acc.reverse, ⟨⟨nm, v, pp, d, ma, hm, ex, he, sc, ht, sm⟩, dom, kp, till, ends⟩, [], by rw [List.length_reverse], ?_, ?_, ?_, Keeps.refl _ _⟩
          · unfold Hid; simp
          · rw [List.reverse_reverse]; exact Q8
          · unfold Hid; rw [FY.out, List.append_nil]
        clear Q8 FY
        case round =>
        obtain ⟨r, hh', R, rfl, LNR, QI, FI, KI⟩ := hrel
        obtain ⟨wi, hwi⟩ : ∃ wi, wi = wr := ⟨wr, rfl⟩
        subst hwi
        have MI0 := Lib.hid (KC8.out.keeps KI.out (fun e => NE.out e))
        have m12 : wi.cell? ⟨m, 12, none⟩ = some (.string (bs kp)) := MI0.out.at 12 _ rfl
        have LNE : (r.reverse ++ hh' :: R).length = acc.length + 1 := by have := LNR.out; simp; omega
        have hrl : r.length ≤ 3000 := by have := LNR.out; omega
        obtain ⟨n, hn⟩ := name_it r.length
        have HN : Hid (r.length = n) := hn
        rw [hn.out] at hrl ⊢
        have hna : n ≤ acc.length := by have := LNR.out; have := HN.out; omega
        clear hn
        obtain ⟨GO, hGO⟩ := name_it (goK ⟨⟨nm, v, pp, d, ma, hm, ex, he, sc, ht, sm⟩, dom, kp, till, ends⟩ r)
        have HGO : Hid (goK ⟨⟨nm, v, pp, d, ma, hm, ex, he, sc, ht, sm⟩, dom, kp, till, ends⟩ r = GO) := hGO
        clear hGO
        go_upto_region 9 with fail
        go_cut [84] (fun t wx => t = .bool GO ∧ Hid (Below wi.heap.size wi wx))
        case first => as_aux_lemma =>
          cases r with
          | nil =>
            have hn0 : n = 0 := by have := HN.out; simp at this; omega
            have hG : GO = false := HGO.out.symm
            subst hn0
            subst hG
            clear HGO HN
            go_quiet (fail)
            go_wp2_with fail
            go_meet
            case rel => exact ⟨rfl, below_of_drewN _⟩
          | cons x r =>
            obtain ⟨q, hq⟩ : ∃ q : Nat, n = q + 1 := ⟨r.length, by have := HN.out; simp at this; omega⟩
            have hql : q = r.length := by have := HN.out; simp at this; omega
            have hqlt : q < ((x :: r).reverse ++ hh' :: R).length := by omega
            have hcz := fun j hj v hv => row_cell2 cellsP_len QI.out LNE q hqlt j hj v hv
            have hxe : ((x :: r).reverse ++ hh' :: R)[q]'hqlt = x := by
              subst hql
              simp
            rw [hxe] at hcz
            have z12 : wi.cell? ⟨g8, q * 15 + 12, none⟩ = some (.string (bs x.path)) := hcz 12 (by decide) _ rfl
            have hG : decide (x.path.length < kp.length) = GO := HGO.out
            have sx := size_bs x.path
            have sk := size_bs kp
            have hsub : ((q + 1 : Nat) : Int) - 1 = (q : Int) := by omega
            have hqa : q ≤ acc.length := by omega
            subst hq
            clear HGO HN hcz hxe hqlt hql LNE QI FI KI LNR
            obtain ⟨X, hX⟩ := name_it (bs x.path)
            obtain ⟨Y, hY⟩ := name_it (bs kp)
            rw [hX.out] at z12 sx
            rw [hY.out] at m12 sk
            have hG2 : decide ((X.size : Int) < (Y.size : Int)) = GO := by rw [← hG, Bool.eq_iff_iff]; simp [sx, sk]
            have HG3 : Hid (decide (X.size < Y.size) = GO) := by unfold Hid; rw [← hG, Bool.eq_iff_iff]; simp [sx, sk]
            clear hX hY hG sx sk
            go_quiet (fail)
            go_wp2_with fail
            go_meet
            case rel => exact ⟨by first | rfl | rw [HG3.out], below_of_drewN _⟩
        case rest =>
        obtain ⟨rfl, hbw⟩ := hcut
        obtain ⟨wj, hwj⟩ : ∃ wj, wj = wc := ⟨wc, rfl⟩
        subst hwj
        have KJ := Lib.hid (KI.out.trans (Keeps.of hbw.out (Nat.le_refl _)))
        have QJ := Lib.hid (row_kept QI.out (fun g hg => hbw.out.block g (World.ownsRow.lt QI.out g hg).2))
        have MJ := Lib.hid (KC8.out.keeps KJ.out (fun e => NE.out e))
        have hnl : n < (r.reverse ++ hh' :: R).length := by omega
        have hrn : r.reverse.length = n := by rw [List.length_reverse]; exact HN.out
        have hcz := fun j hj v hv => row_cell2 cellsP_len QJ.out LNE n hnl j hj v hv
        clear KI QI MI0 m12 hbw
        cases GO with
        | false =>
          have hset : (r.reverse ++ hh' :: R).set n ⟨⟨nm, v, pp, d, ma, hm, ex, he, sc, ht, sm⟩, dom, kp, till, ends⟩ = r.reverse ++ ⟨⟨nm, v, pp, d, ma, hm, ex, he, sc, ht, sm⟩, dom, kp, till, ends⟩ :: R := by
            have := set_mid r.reverse R hh' ⟨⟨nm, v, pp, d, ma, hm, ex, he, sc, ht, sm⟩, dom, kp, till, ends⟩
            rw [hrn] at this
            exact this
          have HFIN : Hid (fndK l host path sec now (k + 1) = r.reverse ++ ⟨⟨nm, v, pp, d, ma, hm, ex, he, sc, ht, sm⟩, dom, kp, till, ends⟩ :: R) := by
            unfold Hid
            rw [← FI.out]
            cases r with
            | nil => rfl
            | cons x r =>
              rw [ins_stop HGO.out]
              simp
          have QE := stored_all (cellsP ⟨⟨nm, v, pp, d, ma, hm, ex, he, sc, ht, sm⟩, dom, kp, till, ends⟩) (n * 15) _ wj QJ.out
          rw [setAll_flat cellsP_len _ n hnl ⟨⟨nm, v, pp, d, ma, hm, ex, he, sc, ht, sm⟩, dom, kp, till, ends⟩, hset] at QE
          have QE := Lib.hid QE
          have KE := Lib.hid (KJ.out.trans (Keeps.put (S := fun j => j = g8) (b := g8) rfl (cellsP ⟨⟨nm, v, pp, d, ma, hm, ex, he, sc, ht, sm⟩, dom, kp, till, ends⟩) (n * 15) wj))
          obtain ⟨zz, hzz⟩ := name_it ((r.reverse ++ hh' :: R)[n]'hnl)
          rw [hzz.out] at hcz
          clear hzz hset hrn LNE HGO FI HN
          obtain ⟨⟨ynm, yv, yp, yd, yma, yhm, yex, yhe, ysc, yht, ysm⟩, ydom, ypath, ytill, yends⟩ := zz
          have z0 : wj.cell? ⟨g8, n * 15, none⟩ = some (.string (bs ynm)) := hcz 0 (by decide) _ rfl
          have z1 : wj.cell? ⟨g8, n * 15 + 1, none⟩ = some (.string (bs yv)) := hcz 1 (by decide) _ rfl
          have z2 : wj.cell? ⟨g8, n * 15 + 2, none⟩ = some (.string (bs yp)) := hcz 2 (by decide) _ rfl
          have z3 : wj.cell? ⟨g8, n * 15 + 3, none⟩ = some (.string (bs yd)) := hcz 3 (by decide) _ rfl
          have z4 : wj.cell? ⟨g8, n * 15 + 4, none⟩ = some (.int .i64 yma) := hcz 4 (by decide) _ rfl
          have z5 : wj.cell? ⟨g8, n * 15 + 5, none⟩ = some (.bool yhm) := hcz 5 (by decide) _ rfl
          have z6 : wj.cell? ⟨g8, n * 15 + 6, none⟩ = some (.int .i64 yex) := hcz 6 (by decide) _ rfl
          have z7 : wj.cell? ⟨g8, n * 15 + 7, none⟩ = some (.bool yhe) := hcz 7 (by decide) _ rfl
          have z8 : wj.cell? ⟨g8, n * 15 + 8, none⟩ = some (.bool ysc) := hcz 8 (by decide) _ rfl
          have z9 : wj.cell? ⟨g8, n * 15 + 9, none⟩ = some (.bool yht) := hcz 9 (by decide) _ rfl
          have z10 : wj.cell? ⟨g8, n * 15 + 10, none⟩ = some (.int .i64 ysm) := hcz 10 (by decide) _ rfl
          have z11 : wj.cell? ⟨g8, n * 15 + 11, none⟩ = some (.string (bs ydom)) := hcz 11 (by decide) _ rfl
          have z12 : wj.cell? ⟨g8, n * 15 + 12, none⟩ = some (.string (bs ypath)) := hcz 12 (by decide) _ rfl
          have z13 : wj.cell? ⟨g8, n * 15 + 13, none⟩ = some (.int .i64 ytill) := hcz 13 (by decide) _ rfl
          have z14 : wj.cell? ⟨g8, n * 15 + 14, none⟩ = some (.bool yends) := hcz 14 (by decide) _ rfl
          have y0 := QJ.out.frozenAt (n * 15)
          have y1 := QJ.out.frozenAt (n * 15 + 1)
          have y2 := QJ.out.frozenAt (n * 15 + 2)
          have y3 := QJ.out.frozenAt (n * 15 + 3)
          have y4 := QJ.out.frozenAt (n * 15 + 4)
          have y5 := QJ.out.frozenAt (n * 15 + 5)
          have y6 := QJ.out.frozenAt (n * 15 + 6)
          have y7 := QJ.out.frozenAt (n * 15 + 7)
          have y8 := QJ.out.frozenAt (n * 15 + 8)
          have y9 := QJ.out.frozenAt (n * 15 + 9)
          have y10 := QJ.out.frozenAt (n * 15 + 10)
          have y11 := QJ.out.frozenAt (n * 15 + 11)
          have y12 := QJ.out.frozenAt (n * 15 + 12)
          have y13 := QJ.out.frozenAt (n * 15 + 13)
          have y14 := QJ.out.frozenAt (n * 15 + 14)
          have c0 : wj.cell? ⟨m, 0, none⟩ = some (.string (bs nm)) := MJ.out.at 0 _ rfl
          have c1 : wj.cell? ⟨m, 1, none⟩ = some (.string (bs v)) := MJ.out.at 1 _ rfl
          have c2 : wj.cell? ⟨m, 2, none⟩ = some (.string (bs pp)) := MJ.out.at 2 _ rfl
          have c3 : wj.cell? ⟨m, 3, none⟩ = some (.string (bs d)) := MJ.out.at 3 _ rfl
          have c4 : wj.cell? ⟨m, 4, none⟩ = some (.int .i64 ma) := MJ.out.at 4 _ rfl
          have c5 : wj.cell? ⟨m, 5, none⟩ = some (.bool hm) := MJ.out.at 5 _ rfl
          have c6 : wj.cell? ⟨m, 6, none⟩ = some (.int .i64 ex) := MJ.out.at 6 _ rfl
          have c7 : wj.cell? ⟨m, 7, none⟩ = some (.bool he) := MJ.out.at 7 _ rfl
          have c8 : wj.cell? ⟨m, 8, none⟩ = some (.bool sc) := MJ.out.at 8 _ rfl
          have c9 : wj.cell? ⟨m, 9, none⟩ = some (.bool ht) := MJ.out.at 9 _ rfl
          have c10 : wj.cell? ⟨m, 10, none⟩ = some (.int .i64 sm) := MJ.out.at 10 _ rfl
          have c11 : wj.cell? ⟨m, 11, none⟩ = some (.string (bs dom)) := MJ.out.at 11 _ rfl
          have c12 : wj.cell? ⟨m, 12, none⟩ = some (.string (bs kp)) := MJ.out.at 12 _ rfl
          have c13 : wj.cell? ⟨m, 13, none⟩ = some (.int .i64 till) := MJ.out.at 13 _ rfl
          have c14 : wj.cell? ⟨m, 14, none⟩ = some (.bool ends) := MJ.out.at 14 _ rfl
          clear hcz hnl
          go_wp2_with fail
          all_goals (try (exfalso; omega))
          rw [put15]
          generalize hw10 : putAll wj g8 (n * 15) _ = w10
          have QF : Hid (w10.ownsRow w1.heap.size tKp 15 (.slice (some ⟨g8, 0, none⟩) (acc.length + 1) cap8) (fndK l host path sec now (k + 1)).length (flat cellsP (fndK l host path sec now (k + 1)))) := by
            unfold Hid
            rw [← hw10, FLN.out, HFIN.out]
            exact QE.out
          have BF : Hid (Below w1.heap.size w1 w10) := by
            unfold Hid
            rw [← hw10]
            exact B8.out.trans (KE.out.below (fun j hj e => by have := HG8.out; omega) B8.out.size)
          clear QE KE hw10 QJ KJ MJ z0 z1 z2 z3 z4 z5 z6 z7 z8 z9 z10 z11 z12 z13 z14 y0 y1 y2 y3 y4 y5 y6 y7 y8 y9 y10 y11 y12 y13 y14 c0 c1 c2 c3 c4 c5 c6 c7 c8 c9 c10 c11 c12 c13 c14
          (try go_wp2_with fail)
          go_roundw
          case rel => exact ⟨k + 1, by omega, by go_num, QF, BF⟩
          case measure => simp [intOf]; omega
        | true =>
          cases r with
          | nil =>
            have h : false = true := HGO.out
            cases h
          | cons x r =>
            have hgo : ltK ⟨⟨nm, v, pp, d, ma, hm, ex, he, sc, ht, sm⟩, dom, kp, till, ends⟩ x = true := HGO.out
            obtain ⟨q, hq⟩ : ∃ q : Nat, n = q + 1 := ⟨r.length, by have := HN.out; simp at this; omega⟩
            have hql : r.length = q := by have := HN.out; simp at this; omega
            have hqlt : q < ((x :: r).reverse ++ hh' :: R).length := by omega
            have hxe : ((x :: r).reverse ++ hh' :: R)[q]'hqlt = x := by
              subst hql
              simp
            have hcx := fun j hj v hv => row_cell2 cellsP_len QJ.out LNE q hqlt j hj v hv
            rw [hxe] at hcx
            have hset : ((x :: r).reverse ++ hh' :: R).set n x = r.reverse ++ x :: x :: R := by
              have := set_mid (x :: r).reverse R hh' x
              rw [hrn] at this
              rw [this]
              simp
            have HF2 : Hid ((insRev ltK ⟨⟨nm, v, pp, d, ma, hm, ex, he, sc, ht, sm⟩, dom, kp, till, ends⟩ r).reverse ++ x :: R = fndK l host path sec now (k + 1)) := by
              unfold Hid
              rw [← FI.out, ins_go hgo]
              simp
            have LN2 : Hid (r.length + (x :: R).length = acc.length) := by
              have := LNR.out
              simp only [List.length_cons] at this
              unfold Hid
              rw [List.length_cons]
              omega
            have QE := stored_all (cellsP x) (n * 15) _ wj QJ.out
            rw [setAll_flat cellsP_len _ n hnl x, hset] at QE
            have QE := Lib.hid QE
            have KE := Lib.hid (KJ.out.trans (Keeps.put (S := fun j => j = g8) (b := g8) rfl (cellsP x) (n * 15) wj))
            have HQ := Lib.hid hq
            have HQL := Lib.hid hql
            have hsub : (n : Int) - 1 = (q : Int) := by omega
            have hqa : q < acc.length + 1 := by omega
            have hqn : q < n := by omega
            obtain ⟨zz, hzz⟩ := name_it (((x :: r).reverse ++ hh' :: R)[n]'hnl)
            rw [hzz.out] at hcz
            clear hzz hset hrn LNE HGO FI HN hxe hqlt hgo LNR hql hq
            obtain ⟨⟨ynm, yv, yp, yd, yma, yhm, yex, yhe, ysc, yht, ysm⟩, ydom, ypath, ytill, yends⟩ := zz
            obtain ⟨⟨tnm, tv, tp, td, tma, thm, tex, the, tsc, tht, tsm⟩, tdom, tpath, ttill, tends⟩ := x
            have z0 : wj.cell? ⟨g8, n * 15, none⟩ = some (.string (bs ynm)) := hcz 0 (by decide) _ rfl
            have z1 : wj.cell? ⟨g8, n * 15 + 1, none⟩ = some (.string (bs yv)) := hcz 1 (by decide) _ rfl
            have z2 : wj.cell? ⟨g8, n * 15 + 2, none⟩ = some (.string (bs yp)) := hcz 2 (by decide) _ rfl
            have z3 : wj.cell? ⟨g8, n * 15 + 3, none⟩ = some (.string (bs yd)) := hcz 3 (by decide) _ rfl
            have z4 : wj.cell? ⟨g8, n * 15 + 4, none⟩ = some (.int .i64 yma) := hcz 4 (by decide) _ rfl
            have z5 : wj.cell? ⟨g8, n * 15 + 5, none⟩ = some (.bool yhm) := hcz 5 (by decide) _ rfl
            have z6 : wj.cell? ⟨g8, n * 15 + 6, none⟩ = some (.int .i64 yex) := hcz 6 (by decide) _ rfl
            have z7 : wj.cell? ⟨g8, n * 15 + 7, none⟩ = some (.bool yhe) := hcz 7 (by decide) _ rfl
            have z8 : wj.cell? ⟨g8, n * 15 + 8, none⟩ = some (.bool ysc) := hcz 8 (by decide) _ rfl
            have z9 : wj.cell? ⟨g8, n * 15 + 9, none⟩ = some (.bool yht) := hcz 9 (by decide) _ rfl
            have z10 : wj.cell? ⟨g8, n * 15 + 10, none⟩ = some (.int .i64 ysm) := hcz 10 (by decide) _ rfl
            have z11 : wj.cell? ⟨g8, n * 15 + 11, none⟩ = some (.string (bs ydom)) := hcz 11 (by decide) _ rfl
            have z12 : wj.cell? ⟨g8, n * 15 + 12, none⟩ = some (.string (bs ypath)) := hcz 12 (by decide) _ rfl
            have z13 : wj.cell? ⟨g8, n * 15 + 13, none⟩ = some (.int .i64 ytill) := hcz 13 (by decide) _ rfl
            have z14 : wj.cell? ⟨g8, n * 15 + 14, none⟩ = some (.bool yends) := hcz 14 (by decide) _ rfl
            have t0 : wj.cell? ⟨g8, q * 15, none⟩ = some (.string (bs tnm)) := hcx 0 (by decide) _ rfl
            have t1 : wj.cell? ⟨g8, q * 15 + 1, none⟩ = some (.string (bs tv)) := hcx 1 (by decide) _ rfl
            have t2 : wj.cell? ⟨g8, q * 15 + 2, none⟩ = some (.string (bs tp)) := hcx 2 (by decide) _ rfl
            have t3 : wj.cell? ⟨g8, q * 15 + 3, none⟩ = some (.string (bs td)) := hcx 3 (by decide) _ rfl
            have t4 : wj.cell? ⟨g8, q * 15 + 4, none⟩ = some (.int .i64 tma) := hcx 4 (by decide) _ rfl
            have t5 : wj.cell? ⟨g8, q * 15 + 5, none⟩ = some (.bool thm) := hcx 5 (by decide) _ rfl
            have t6 : wj.cell? ⟨g8, q * 15 + 6, none⟩ = some (.int .i64 tex) := hcx 6 (by decide) _ rfl
            have t7 : wj.cell? ⟨g8, q * 15 + 7, none⟩ = some (.bool the) := hcx 7 (by decide) _ rfl
            have t8 : wj.cell? ⟨g8, q * 15 + 8, none⟩ = some (.bool tsc) := hcx 8 (by decide) _ rfl
            have t9 : wj.cell? ⟨g8, q * 15 + 9, none⟩ = some (.bool tht) := hcx 9 (by decide) _ rfl
            have t10 : wj.cell? ⟨g8, q * 15 + 10, none⟩ = some (.int .i64 tsm) := hcx 10 (by decide) _ rfl
            have t11 : wj.cell? ⟨g8, q * 15 + 11, none⟩ = some (.string (bs tdom)) := hcx 11 (by decide) _ rfl
            have t12 : wj.cell? ⟨g8, q * 15 + 12, none⟩ = some (.string (bs tpath)) := hcx 12 (by decide) _ rfl
            have t13 : wj.cell? ⟨g8, q * 15 + 13, none⟩ = some (.int .i64 ttill) := hcx 13 (by decide) _ rfl
            have t14 : wj.cell? ⟨g8, q * 15 + 14, none⟩ = some (.bool tends) := hcx 14 (by decide) _ rfl
            have y0 := QJ.out.frozenAt (n * 15)
            have y1 := QJ.out.frozenAt (n * 15 + 1)
            have y2 := QJ.out.frozenAt (n * 15 + 2)
            have y3 := QJ.out.frozenAt (n * 15 + 3)
            have y4 := QJ.out.frozenAt (n * 15 + 4)
            have y5 := QJ.out.frozenAt (n * 15 + 5)
            have y6 := QJ.out.frozenAt (n * 15 + 6)
            have y7 := QJ.out.frozenAt (n * 15 + 7)
            have y8 := QJ.out.frozenAt (n * 15 + 8)
            have y9 := QJ.out.frozenAt (n * 15 + 9)
            have y10 := QJ.out.frozenAt (n * 15 + 10)
            have y11 := QJ.out.frozenAt (n * 15 + 11)
            have y12 := QJ.out.frozenAt (n * 15 + 12)
            have y13 := QJ.out.frozenAt (n * 15 + 13)
            have y14 := QJ.out.frozenAt (n * 15 + 14)
            clear hcz hcx hnl
            go_wp2_with fail
            all_goals (try (exfalso; omega))
            rw [put15]
            generalize hw10 : putAll wj g8 (n * 15) _ = w10
            have QF : Hid (w10.ownsRow w1.heap.size tKp 15 (.slice (some ⟨g8, 0, none⟩) (acc.length + 1) cap8) (acc.length + 1) (flat cellsP (r.reverse ++ ⟨⟨tnm, tv, tp, td, tma, thm, tex, the, tsc, tht, tsm⟩, tdom, tpath, ttill, tends⟩ :: ⟨⟨tnm, tv, tp, td, tma, thm, tex, the, tsc, tht, tsm⟩, tdom, tpath, ttill, tends⟩ :: R))) := by
              unfold Hid
              rw [← hw10]
              exact QE.out
            have KF : Hid (Keeps (fun j => j = g8) w8 w10) := by
              unfold Hid
              rw [← hw10]
              exact KE.out
            clear QE KE hw10 QJ KJ MJ z0 z1 z2 z3 z4 z5 z6 z7 z8 z9 z10 z11 z12 z13 z14 y0 y1 y2 y3 y4 y5 y6 y7 y8 y9 y10 y11 y12 y13 y14 t0 t1 t2 t3 t4 t5 t6 t7 t8 t9 t10 t11 t12 t13 t14
            (try go_wp2_with fail)
            go_roundw
            case rel => exact ⟨r, ⟨⟨tnm, tv, tp, td, tma, thm, tex, the, tsc, tht, tsm⟩, tdom, tpath, ttill, tends⟩, ⟨⟨tnm, tv, tp, td, tma, thm, tex, the, tsc, tht, tsm⟩, tdom, tpath, ttill, tends⟩ :: R, by rw [HQL.out], LN2, QF, HF2, KF⟩
            case measure =>
              have := HQ.out
              simp [intOf]
              omega
    ·
      obtain rfl : k = l.length := by omega
      obtain ⟨srt, hsrt⟩ := name_it (fndK l host path sec now l.length)
      have HSL : Hid (srt.length ≤ 3000) := by have := fndK_len l host path sec now l.length; rw [hsrt.out] at this; unfold Hid; omega
      rw [hsrt.out] at hR HFA
      clear hsrt
      obtain ⟨so, co, hout⟩ := row_slice hR.out
      subst hout
      have LL := Lib.hid (row_lies cellsP_len hR.out)
      have BQ := Lib.hid (B2.out.trans (hB.out.mono B2.out.size))
      clear hR hB L2 K1 K2 B2
      go_upto_region 14 with fail
      all_goals (try (exfalso; omega))
      refine rget_t14 ?hK LL HSL HFA ?_
      case hK => assumption
      intro d0 d1 d2 d3 d5 d6 d7 d8 d9 d10 d11 d12 d13 d14 d15 d16 d17 d18 d19 d20 d21 d22 d23 d24 d25 d26 d27 d28 d29 d30 d31 d32 d33 d34 d35 d36 d37 d38 d39 d40 d41 d42 d43 d44 d45 d46 d47 d48 d49 d50 d51 d52 d53 d54 d55 d56 d57 d58 d59 d60 d61 d62 d63 d64 d65 d66 d67 d68 d69 d70 d71 d72 d73 d74 d75 d76 d77 d78 d79 d80 d81 d82 d83 d84 d85 d86 d87 d88 d89 d90 d91 d92 d93 d94 d95 d96 d97 d98 d99 d100 d101 d102 d103 d104 d105 d106 d107 d108 d109 d110 d111 d112 d113 d114 d115 d116 d117 rv w9 hrow hbel
      have Q9 := Lib.hid (World.ownsRow.mono hrow BQ.out.size)
      have D9 := Lib.hid (BQ.out.trans (hbel.mono BQ.out.size))
      clear hrow hbel
      go_ret
      exact ⟨⟨_, rfl, Q9.out⟩, D9.out⟩
end Go.Proofs.YtkenianfpfamcaaGreatDoor
