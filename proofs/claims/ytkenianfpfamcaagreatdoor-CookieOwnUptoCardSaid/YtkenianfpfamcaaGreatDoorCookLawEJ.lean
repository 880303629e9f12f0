/- The law's CookieOwn. -/
import Derived.Test.YtkenianfpfamcaaGreatDoorMo
import Derived.Test.YtkenianfpfamcaaGreatDoorMw
import Derived.Test.YtkenianfpfamcaaGreatDoorMp
import Derived.Test.YtkenianfpfamcaaGreatDoorWrapEJ
import Derived.Deep.DeepCutAuto
namespace Go.Proofs.YtkenianfpfamcaaGreatDoor
open Go Go.RowKit
set_option maxHeartbeats 8000000

/-- the call's own block, the jar's -/
structure Ow (w : World) (b jb mb n : Nat) (o : OpC) (l : List It) (wx : World) : Prop where
  k : CellsAt wx b (cellsO o)
  j : JarAt wx jb mb 3 n l
  bl : Below w.heap.size w wx
theorem Ow.next {w : World} {b jb mb n : Nat} {o : OpC} {l : List It} {wx wy : World} (h : Ow w b jb mb n o l wx) (hb : Below wx.heap.size wx wy) : Ow w b jb mb n o l wy :=
  ⟨h.k.next hb, h.j.next_ hb, h.bl.trans (hb.mono h.bl.size)⟩
theorem row_cks_of {w : World} {base : Nat} {v : Value} {l : List Ck} (h : CkRow w base v l) (p : Option Addr) (cap : Nat) (e : v = .slice p l.length cap) : Cks w p l := by subst e; exact row_cks h
theorem eq_str {a b : List UInt8} (h : a = b) : ((bs a).toList == (bs b).toList) = true := by rw [str_eq, L_bs, L_bs, h]; simp
set_option maxRecDepth 100000 in
theorem lawOwn_any (o x : OpC) (later : Int) (w : World) (hE : EnvK w) (ho : FitO o) (hx : FitO x) (hl0 : -9223372036854775808 ≤ later) (hl1 : later ≤ 9223372036854775807) :
    Calls Tryz.prog 9 #[.agg (cellsO o).toArray, .agg (cellsO x).toArray, .int .i64 later] w fun e w' => e = .returned (.bool true) ∧ Below w.heap.size w w' := by
  obtain ⟨kd, ⟨nm, v, p, d, ma, hm, ex, he, sc, ht, sm⟩, host, path, sec, now⟩ := o
  obtain ⟨xk, ⟨xnm, xv, xp, xd, xma, xhm, xex, xhe, xsc, xht, xsm⟩, xhost, xpath, xsec, xnow⟩ := x
  have FC := Lib.hid ho.c
  have FH := Lib.hid ho.host
  have FP := Lib.hid ho.path
  have XH := Lib.hid hx.host
  have XP := Lib.hid hx.path
  have hn0 := ho.n0
  have hn1 := ho.n1
  simp only at hn0 hn1
  have HA := Lib.hid (fun wx (h : EnvK wx) => awake_any wx h)
  have K1 := Lib.hid (CellsAt.first w (cellsO ⟨kd, ⟨nm, v, p, d, ma, hm, ex, he, sc, ht, sm⟩, host, path, sec, now⟩) 61)
  have B1 := Lib.hid (below_put2 (w := w) (cs := (cellsO ⟨kd, ⟨nm, v, p, d, ma, hm, ex, he, sc, ht, sm⟩, host, path, sec, now⟩).toArray) (T := 61))
  have E1 := Lib.hid (hE.next B1.out)
  have K2 := Lib.hid (fun wx => CellsAt.first wx (cellsO ⟨xk, ⟨xnm, xv, xp, xd, xma, xhm, xex, xhe, xsc, xht, xsm⟩, xhost, xpath, xsec, xnow⟩) 61)
  have B2 := Lib.hid (fun (wx : World) => below_put2 (w := wx) (cs := (cellsO ⟨xk, ⟨xnm, xv, xp, xd, xma, xhm, xex, xhe, xsc, xht, xsm⟩, xhost, xpath, xsec, xnow⟩).toArray) (T := 61))
  clear hE ho hx
  unfold cellsO cellsS at K1 B1 E1 K2 B2 ⊢
  simp only [List.cons_append, List.nil_append] at K1 B1 E1 K2 B2 ⊢
  go_enter Tryz.func9, Tryz.ntmps9
  go_upto_region 1 with fail
  have hsz : (w.alloc (.cells #[.int .i64 kd, .string (bs nm), .string (bs v), .string (bs p), .string (bs d), .int .i64 ma, .bool hm, .int .i64 ex, .bool he, .bool sc, .bool ht, .int .i64 sm, .string (bs host), .string (bs path), .bool sec, .int .i64 now] 61)).heap.size = w.heap.size + 1 := by
    show (w.heap.push _).size = _
    rw [Array.size_push]
  obtain ⟨w1, hw1⟩ := name_it (w.alloc (.cells #[.int .i64 kd, .string (bs nm), .string (bs v), .string (bs p), .string (bs d), .int .i64 ma, .bool hm, .int .i64 ex, .bool he, .bool sc, .bool ht, .int .i64 sm, .string (bs host), .string (bs path), .bool sec, .int .i64 now] 61))
  rw [hw1.out] at K1 B1 E1 hsz ⊢
  have KO2 := Lib.hid (K1.out.next (B2.out w1))
  have KX2 := Lib.hid (K2.out w1)
  have E2 := Lib.hid (E1.out.next (B2.out w1))
  have D2 := Lib.hid (B1.out.trans ((B2.out w1).mono B1.out.size))
  obtain ⟨b, hb⟩ := name_it w.heap.size
  obtain ⟨bx, hbx⟩ := name_it w1.heap.size
  have HB : Hid (b = w.heap.size) := hb.out.symm
  rw [hb.out] at KO2 hsz ⊢
  rw [hbx.out] at KX2 hsz
  rw [← hsz]
  clear hw1 K1 B1 E1 K2 B2 hb hbx hsz
  generalize w1.alloc _ = w2 at KO2 KX2 E2 D2 ⊢
  go_wp2_with fail
  refine (HA.out _ E2.out).mono ?_; rintro e w3 ⟨rfl, hb3⟩
  have KO3 := Lib.hid (KO2.out.next hb3)
  have KX3 := Lib.hid (KX2.out.next hb3)
  have E3 := Lib.hid (E2.out.next hb3)
  have D3 := Lib.hid (D2.out.trans (hb3.mono D2.out.size))
  clear KO2 KX2 E2 D2 hb3 HA
  have x12 : w3.cell? ⟨bx, 12, none⟩ = some (.string (bs xhost)) := KX3.out.at 12 _ rfl
  have x13 : w3.cell? ⟨bx, 13, none⟩ = some (.string (bs xpath)) := KX3.out.at 13 _ rfl
  go_upto_region 3 with fail
  go_region
  have bd := (Below.refl w3.heap.size w3).drew
  have KO4 := Lib.hid (KO3.out.next bd)
  have E4 := Lib.hid (E3.out.next bd)
  have D4 := Lib.hid (D3.out.trans (bd.mono D3.out.size))
  clear x12 x13 KX3 KO3 E3 D3 bd
  generalize w3.drew = w4 at KO4 E4 D4 ⊢
  go_wp2_with fail
  refine (new_any 3 w4 (by decide) (by decide)).mono ?_; rintro e w5 ⟨rfl, hJ5, hb5⟩
  obtain ⟨mb, hmb⟩ : ∃ mb, mb = w4.heap.size := ⟨_, rfl⟩
  obtain ⟨jb, hjb⟩ : ∃ jb, jb = w4.heap.size + 1 := ⟨_, rfl⟩
  rw [← hjb] at hJ5 ⊢
  rw [← hmb] at hJ5
  have J5 := Lib.hid hJ5
  have KO5 := Lib.hid (KO4.out.next hb5)
  have E5 := Lib.hid (E4.out.next hb5)
  have D5 := Lib.hid (D4.out.trans (hb5.mono D4.out.size))
  have GJ : Hid (w.heap.size ≤ jb ∧ w.heap.size ≤ mb ∧ b ≠ jb ∧ b ≠ mb) := by have := D4.out.size; have := KO4.out.lt; exact ⟨by omega, by omega, by omega, by omega⟩
  clear hJ5 hb5 hmb hjb KO4 E4 D4
  have ST := Lib.hid (set_any w5 jb mb 3 0 [] (⟨nm, v, p, d, ma, hm, ex, he, sc, ht, sm⟩ : SetC) (bs host) (bs path) sec now J5.out E5.out FC.out (by rw [size_bs]; exact FH.out) (by rw [size_bs]; exact FP.out) (by decide) (by decide) (by decide))
  have hmap : ([] : List It).map It.k = [] := rfl
  rw [hmap] at ST
  simp only [L_bs] at ST
  unfold SetPost at ST
  obtain ⟨fl, hfl⟩ := name_it (failC [] (⟨nm, v, p, d, ma, hm, ex, he, sc, ht, sm⟩ : SetC) host path sec now)
  rw [hfl.out] at ST
  unfold ptrV cellsS at ST
  simp only at ST
  clear hmap
  have d1 : w5.cell? ⟨b, 1, none⟩ = some (.string (bs nm)) := KO5.out.at 1 _ rfl
  have d2 : w5.cell? ⟨b, 2, none⟩ = some (.string (bs v)) := KO5.out.at 2 _ rfl
  have d3 : w5.cell? ⟨b, 3, none⟩ = some (.string (bs p)) := KO5.out.at 3 _ rfl
  have d4 : w5.cell? ⟨b, 4, none⟩ = some (.string (bs d)) := KO5.out.at 4 _ rfl
  have d5 : w5.cell? ⟨b, 5, none⟩ = some (.int .i64 ma) := KO5.out.at 5 _ rfl
  have d6 : w5.cell? ⟨b, 6, none⟩ = some (.bool hm) := KO5.out.at 6 _ rfl
  have d7 : w5.cell? ⟨b, 7, none⟩ = some (.int .i64 ex) := KO5.out.at 7 _ rfl
  have d8 : w5.cell? ⟨b, 8, none⟩ = some (.bool he) := KO5.out.at 8 _ rfl
  have d9 : w5.cell? ⟨b, 9, none⟩ = some (.bool sc) := KO5.out.at 9 _ rfl
  have d10 : w5.cell? ⟨b, 10, none⟩ = some (.bool ht) := KO5.out.at 10 _ rfl
  have d11 : w5.cell? ⟨b, 11, none⟩ = some (.int .i64 sm) := KO5.out.at 11 _ rfl
  have d12 : w5.cell? ⟨b, 12, none⟩ = some (.string (bs host)) := KO5.out.at 12 _ rfl
  have d13 : w5.cell? ⟨b, 13, none⟩ = some (.string (bs path)) := KO5.out.at 13 _ rfl
  have d14 : w5.cell? ⟨b, 14, none⟩ = some (.bool sec) := KO5.out.at 14 _ rfl
  have d15 : w5.cell? ⟨b, 15, none⟩ = some (.int .i64 now) := KO5.out.at 15 _ rfl
  have LQ := Lib.hid (fun (wx : World) (n l) (h : JarAt wx jb mb 3 n l) (h1 : n ≤ 1099511627776) (h2 : l.length ≤ 1099511627776) => len_any wx jb mb 3 n l h h1 h2)
  have AQ := Lib.hid (fun (wx : World) (n l) (h : JarAt wx jb mb 3 n l) (h1 : n ≤ 1099511627776) (h2 : l.length ≤ 1048576) => all_any wx jb mb 3 n l h h1 h2)
  unfold ptrV at LQ AQ
  by_cases h0 : fl = 0
  rotate_left
  · as_aux_lemma =>
    have hne : (fl == 0) = false := by simpa using h0
    have hbad : setJ 3 [] (⟨nm, v, p, d, ma, hm, ex, he, sc, ht, sm⟩ : SetC) host path sec now = [] := setJ_bad (by rw [hfl.out]; exact h0)
    rw [hbad] at ST
    clear hfl h0 hbad
    go_wp2_with (first | (go_at_call 26; refine ST.out.mono ?_; rintro e w6 ⟨rfl, hk6, l6, n6, hj6, hl6, hn6a, hn6b⟩))
    have hl0 : l6 = [] := List.map_eq_nil_iff.1 hl6
    subst hl0
    have D6 := Lib.hid (D5.out.trans (set_below hk6 GJ.out.1 GJ.out.2.1 D5.out.size))
    have J6 := Lib.hid hj6
    clear hk6 hj6 hl6 d1 d2 d3 d4 d5 d6 d7 d8 d9 d10 d11 d12 d13 d14 d15 ST KO5 E5 D5 J5
    refine (LQ.out _ _ _ J6.out (by omega) (by decide)).mono ?_; rintro e w7 ⟨rfl, hb7⟩
    have J7 := Lib.hid (J6.out.next_ hb7)
    have D7 := Lib.hid (D6.out.trans (hb7.mono D6.out.size))
    rw [List.length_nil]
    clear J6 D6 hb7
    go_wp2_with fail
    refine (AQ.out _ _ _ J7.out (by omega) (by decide)).mono ?_; rintro e w8 ⟨⟨v8, rfl, hr8⟩, hb8⟩
    have D8 := Lib.hid (D7.out.trans (hb8.mono D7.out.size))
    obtain ⟨so8, co8, hv8⟩ := row_slice hr8
    subst hv8
    have hl8 : (allI []).length = 0 := rfl
    rw [hl8]
    clear J7 D7 hb8 hr8
    go_wp2_with fail
    go_ret
    exact ⟨rfl, D8.out⟩
  · subst h0
    have FO := hfl
    rw [set_one (by decide) hfl.out] at ST
    have MB := mom_bounds (fail_none hfl.out).1
    have AB := right_age (fail_none hfl.out).2.1
    simp only at AB
    clear hfl
    go_upto_region 9 with (first | (go_at_call 26; refine ST.out.mono ?_; rintro e w6 ⟨rfl, hk6, l6, n6, hj6, hl6, hn6a, hn6b⟩))
    have O6 : Hid (Ow w b jb mb n6 ⟨kd, (⟨nm, v, p, d, ma, hm, ex, he, sc, ht, sm⟩ : SetC), host, path, sec, now⟩ l6 w6) := ⟨KO5.out.keeps hk6 (fun h => by rcases h with h | h; exact GJ.out.2.2.1 h; exact GJ.out.2.2.2 h), hj6, D5.out.trans (set_below hk6 GJ.out.1 GJ.out.2.1 D5.out.size)⟩
    have hlen : l6.length = 1 := by have := congrArg List.length hl6; simpa using this
    have LQ1 := Lib.hid (fun (wx : World) (h : JarAt wx jb mb 3 n6 l6) => LQ.out wx _ _ h (by omega) (by omega))
    simp only [hlen] at LQ1
    have GT := Lib.hid (fun (wx : World) (h : JarAt wx jb mb 3 n6 l6) (hh pp : List UInt8) (s : Bool) (t : Int) (h1 : hh.length ≤ 1073741824) (h2 : pp.length ≤ 1073741824) => get_any wx jb mb 3 n6 l6 (bs hh) (bs pp) s t h (by omega) (by omega) (by rw [size_bs]; exact h1) (by rw [size_bs]; exact h2))
    simp only [hl6, L_bs] at GT
    unfold ptrV at GT
    clear hk6 hj6 hl6 hn6a hn6b hlen ST KO5 E5 D5 J5 LQ AQ GJ d1 d2 d3 d4 d5 d6 d7 d8 d9 d10 d11 d12 d13 d14 d15
    obtain ⟨own, hown⟩ := name_it (if p = [] then xpath else p)
    have OWN : Hid ((if p = [] then xpath else p) = own) := hown
    clear hown
    have HPE : Hid ((bs p).toList.isEmpty = decide (p = [])) := by have := str_empty (bs p); rw [L_bs] at this; exact this
    have d3 : w6.cell? ⟨b, 3, none⟩ = some (.string (bs p)) := O6.out.k.at 3 _ rfl
    go_upto_if 60 with fail
    go_cut [11] (fun s wx => s = .string (bs own) ∧ wx = w6)
    case first => as_aux_lemma =>
      by_cases hp : p = []
      · have hp1 : (bs p).toList.isEmpty = true := by rw [HPE.out]; exact decide_eq_true hp
        have HO : Hid (own = xpath) := by rw [← OWN.out, if_pos hp]; exact rfl
        clear hp
        go_wp2_with fail
        all_goals (try (exfalso; rename_i h9; rw [hp1] at h9; cases h9; done))
        go_meet
        case rel => exact ⟨by rw [HO.out], rfl⟩
      · have hp1 : (bs p).toList.isEmpty = false := by rw [HPE.out]; exact decide_eq_false hp
        have HO : Hid (own = p) := by rw [← OWN.out, if_neg hp]; exact rfl
        clear hp
        go_wp2_with fail
        all_goals (try (exfalso; rename_i h9; rw [hp1] at h9; cases h9; done))
        go_meet
        case rel => exact ⟨by rw [HO.out], rfl⟩
    case rest => as_aux_lemma =>
    obtain ⟨rfl, hwc⟩ := hcut
    rw [hwc]
    clear hwc
    have OL : Hid (own.length ≤ 1073741824) := by
      unfold Hid
      rw [← OWN.out]
      split
      · exact XP.out
      · exact FC.out.p
    have bma2 : (ma == 0) = decide (ma = 0) := by rw [Bool.eq_iff_iff]; simp
    clear d3
    have d3 : w6.cell? ⟨b, 3, none⟩ = some (.string (bs p)) := O6.out.k.at 3 _ rfl
    have d5 : w6.cell? ⟨b, 5, none⟩ = some (.int .i64 ma) := O6.out.k.at 5 _ rfl
    have d6 : w6.cell? ⟨b, 6, none⟩ = some (.bool hm) := O6.out.k.at 6 _ rfl
    have d7 : w6.cell? ⟨b, 7, none⟩ = some (.int .i64 ex) := O6.out.k.at 7 _ rfl
    have d8 : w6.cell? ⟨b, 8, none⟩ = some (.bool he) := O6.out.k.at 8 _ rfl
    have d12 : w6.cell? ⟨b, 12, none⟩ = some (.string (bs host)) := O6.out.k.at 12 _ rfl
    have d15 : w6.cell? ⟨b, 15, none⟩ = some (.int .i64 now) := O6.out.k.at 15 _ rfl
    go_upto_region 12 with fail
    go_cut [72] (fun t wx => t = .bool (hm && decide (ma = 0)) ∧ wx = w6)
    case first => as_aux_lemma =>
      cases hm
      all_goals
        go_wp2_with fail
        go_meet
        case rel => exact ⟨by simp, rfl⟩
    case rest => as_aux_lemma =>
    obtain ⟨rfl, hwc⟩ := hcut
    rw [hwc]
    clear hwc
    cases hT12 : (hm && decide (ma = 0))
    rotate_left
    · have hm1 : hm = true ∧ ma = 0 := by simpa using hT12
      have G1 := Lib.hid (GT.out w6 O6.out.j host own true now FH.out OL.out)
      rw [get_over ((over_iff _ _ _ _ _).2 (Or.inl ⟨hm1.1, by show now + ma ≤ now; omega⟩))] at G1
      clear hm1 hT12 bma2
      go_wp2_with fail
      refine G1.out.mono ?_; rintro e w7 ⟨⟨v7, rfl, hr7⟩, hb7⟩
      have O7 := Lib.hid (O6.out.next hb7)
      obtain ⟨so7, co7, hv7⟩ := row_slice hr7
      subst hv7
      rw [List.length_nil]
      clear O6 G1 hb7 hr7 d3 d5 d6 d7 d8 d12 d15
      go_wp2_with fail
      refine (LQ1.out _ O7.out.j).mono ?_; rintro e w8 ⟨rfl, hb8⟩
      have D8 := Lib.hid (O7.out.bl.trans (hb8.mono O7.out.bl.size))
      clear O7 hb8
      go_wp2_with fail
      go_ret
      exact ⟨rfl, D8.out⟩
    · go_upto_region 15 with fail
      go_cut [104] (fun t wx => t = .bool (!hm && (he && decide (ex ≤ now))) ∧ wx = w6)
      case first => as_aux_lemma =>
        clear bma2 hT12
        cases hm
        all_goals
          cases he
          all_goals
            go_wp2_with fail
            go_meet
            case rel => exact ⟨by simp, rfl⟩
      case rest => as_aux_lemma =>
      obtain ⟨rfl, hwc⟩ := hcut
      rw [hwc]
      clear hwc
      cases hT15 : (!hm && (he && decide (ex ≤ now)))
      rotate_left
      · have hm1 : hm = false ∧ he = true ∧ ex ≤ now := by simpa using hT15
        have G1 := Lib.hid (GT.out w6 O6.out.j host own true now FH.out OL.out)
        rw [get_over ((over_iff _ _ _ _ _).2 (Or.inr hm1))] at G1
        clear hm1 hT12 hT15 bma2
        go_wp2_with fail
        refine G1.out.mono ?_; rintro e w7 ⟨⟨v7, rfl, hr7⟩, hb7⟩
        have D7 := Lib.hid (O6.out.bl.trans (hb7.mono O6.out.bl.size))
        obtain ⟨so7, co7, hv7⟩ := row_slice hr7
        subst hv7
        rw [List.length_nil]
        clear O6 G1 hb7 hr7 d3 d5 d6 d7 d8 d12 d15
        go_wp2_with fail
        go_ret
        exact ⟨rfl, D7.out⟩
      · have NOV : Hid ((kpOf (⟨nm, v, p, d, ma, hm, ex, he, sc, ht, sm⟩ : SetC) host path now).over now = false) := by
          unfold Hid
          cases hov : (kpOf (⟨nm, v, p, d, ma, hm, ex, he, sc, ht, sm⟩ : SetC) host path now).over now with
          | false => rfl
          | true =>
            rcases (over_iff _ _ _ _ _).1 hov with h | h
            · have h1 : hm = true := h.1
              have h2 : now + ma ≤ now := h.2
              have h3 : ma = 0 := by omega
              rw [h1, h3] at hT12
              simp at hT12
            · have h1 : hm = false := h.1
              have h2 : he = true := h.2.1
              have h3 : ex ≤ now := h.2.2
              rw [h1, h2, decide_eq_true h3] at hT15
              cases hT15
        clear hT12 hT15 bma2
        have G1 := Lib.hid (GT.out w6 O6.out.j host own true now FH.out OL.out)
        obtain ⟨L1, hL1⟩ := name_it (getJ [kpOf (⟨nm, v, p, d, ma, hm, ex, he, sc, ht, sm⟩ : SetC) host path now] host own true now)
        rw [hL1.out] at G1
        have HL1 : Hid (p ≠ [] → L1 = [(nm, v)]) := fun hp => by
          rw [← hL1.out]
          exact get_own FO.out hp (by rw [← OWN.out, if_neg hp]) NOV.out
        clear hL1
        go_wp2_with fail
        refine G1.out.mono ?_; rintro e w7 ⟨⟨v7, rfl, hr7⟩, hb7⟩
        have O7 := Lib.hid (O6.out.next hb7)
        have R7 := Lib.hid hr7
        obtain ⟨so7, co7, hv7⟩ := row_slice hr7
        subst hv7
        clear O6 G1 hb7 hr7 d3 d5 d6 d7 d8 d12 d15
        have d1 : w7.cell? ⟨b, 1, none⟩ = some (.string (bs nm)) := O7.out.k.at 1 _ rfl
        have d2 : w7.cell? ⟨b, 2, none⟩ = some (.string (bs v)) := O7.out.k.at 2 _ rfl
        have d3 : w7.cell? ⟨b, 3, none⟩ = some (.string (bs p)) := O7.out.k.at 3 _ rfl
        go_upto_region 18 with fail
        go_cut [147] (fun t wx => t = .bool false ∧ Hid (Below w7.heap.size w7 wx))
        case first => as_aux_lemma =>
          by_cases hp : p = []
          · have hp1 : (bs p).toList.isEmpty = true := by rw [HPE.out]; exact decide_eq_true hp
            clear hp R7 HL1
            go_quiet (fail)
            go_wp2_with fail
            go_meet
            case rel => exact ⟨rfl, below_of_drewN _⟩
          · have hp1 : (bs p).toList.isEmpty = false := by rw [HPE.out]; exact decide_eq_false hp
            have h1 := HL1.out hp
            subst h1
            have hl1 : ([(nm, v)] : List Ck).length = 1 := rfl
            rw [hl1]
            obtain ⟨g7, rfl⟩ : ∃ g, so7 = some ⟨g, 0, none⟩ := by
              rcases R7.out.2 with ⟨hn0, h0⟩ | ⟨g, cap', cur, hn0, hrest⟩
              · cases h0
              · injection hn0 with hn0 _ _
                exact ⟨g, hn0⟩
            have c70 : w7.cell? ⟨g7, 0, none⟩ = some (.string (bs nm)) := R7.out.cellAt 0 (by show 0 < 2; decide)
            have c71 : w7.cell? ⟨g7, 1, none⟩ = some (.string (bs v)) := R7.out.cellAt 1 (by show 1 < 2; decide)
            clear hp R7 HL1 hl1
            go_quiet (fail)
            go_wp2_with fail
            go_meet
            case rel => exact ⟨rfl, below_of_drewN _⟩
        case rest => as_aux_lemma =>
        obtain ⟨rfl, hb8⟩ := hcut
        obtain ⟨w8, hw8⟩ : ∃ w8, w8 = wc := ⟨wc, rfl⟩
        subst hw8
        have O8 := Lib.hid (O7.out.next hb8.out)
        clear O7 hb8 R7 HL1 d1 d2 d3
        have d9 : w8.cell? ⟨b, 9, none⟩ = some (.bool sc) := O8.out.k.at 9 _ rfl
        have d12 : w8.cell? ⟨b, 12, none⟩ = some (.string (bs host)) := O8.out.k.at 12 _ rfl
        go_upto_region 20 with fail
        go_cut [160] (fun t wx => t = .bool false ∧ Hid (Below w8.heap.size w8 wx))
        case first => as_aux_lemma =>
          cases sc with
          | false =>
            go_wp2_with fail
            go_meet
            case rel => exact ⟨rfl, Below.refl _ _⟩
          | true =>
            have G1 := Lib.hid (GT.out w8 O8.out.j host own false now FH.out OL.out)
            rw [get_unsec rfl] at G1
            go_wp2_with fail
            refine G1.out.mono ?_; rintro e w9 ⟨⟨v9, rfl, hr9⟩, hb9⟩
            have D9 := Lib.hid hb9
            obtain ⟨so9, co9, hv9⟩ := row_slice hr9
            subst hv9
            rw [List.length_nil]
            clear O8 G1 hb9 hr9 d9 d12
            go_wp2_with fail
            go_meet
            case rel => exact ⟨rfl, D9.out⟩
        case rest => as_aux_lemma =>
        obtain ⟨rfl, hb9⟩ := hcut
        obtain ⟨w9, hw9⟩ : ∃ w9, w9 = wc := ⟨wc, rfl⟩
        subst hw9
        have O9 := Lib.hid (O8.out.next hb9.out)
        clear O8 hb9 d9 d12
        have G2 := Lib.hid (GT.out w9 O9.out.j xhost xpath true now XH.out XP.out)
        have TW := Lib.hid (get_two (⟨nm, v, p, d, ma, hm, ex, he, sc, ht, sm⟩ : SetC) host path xhost xpath now now true)
        obtain ⟨L2, hL2⟩ := name_it (getJ [kpOf (⟨nm, v, p, d, ma, hm, ex, he, sc, ht, sm⟩ : SetC) host path now] xhost xpath true now)
        rw [hL2.out] at G2 TW
        clear hL2
        go_wp2_with fail
        refine G2.out.mono ?_; rintro e w10 ⟨⟨v10, rfl, hr10⟩, hb10⟩
        have O10 := Lib.hid (O9.out.next hb10)
        have R10 := Lib.hid (fun p cap e => row_cks_of hr10 p cap e)
        obtain ⟨so10, co10, hv10⟩ := row_slice hr10
        subst hv10
        have R10 := Lib.hid (R10.out so10 co10 rfl)
        have HL2 : Hid (L2.length ≤ 1) := by
          rcases TW.out with h | ⟨_, h⟩
          · unfold Hid; rw [h]; decide
          · unfold Hid; rw [h]; exact Nat.le_refl 1
        have hL2b : L2.length ≤ 1 := HL2.out
        have HS : Hid (w10.heap.size = w10.heap.size) := rfl
        clear O9 G2 hb10 hr10 HS HL2
        go_wp2_with fail
        go_loopw [15, 16, 167] (fun _ _ i wr => ∃ k : Nat, k ≤ L2.length ∧ i = .int .i64 k ∧ Hid (Ow w b jb mb n6 ⟨kd, (⟨nm, v, p, d, ma, hm, ex, he, sc, ht, sm⟩ : SetC), host, path, sec, now⟩ l6 wr) ∧ Hid (Below w10.heap.size w10 wr)) (fun _ _ i _ => L2.length - (intOf i).toNat)
        case atStart => exact ⟨0, Nat.zero_le _, rfl, O10, Below.refl _ _⟩
        clear O10
        case round => as_aux_lemma =>
        obtain ⟨k, hk, rfl, OO, BB⟩ := hrel
        obtain ⟨wq, hwq⟩ : ∃ wq, wq = wr := ⟨wr, rfl⟩
        subst hwq
        by_cases hlt : k < L2.length
        · obtain ⟨g, og, rfl, hg, c0, c1⟩ := (R10.out.next BB.out).get k hlt
          have hcc : L2[k] = (nm, v) := by
            rcases TW.out with h | ⟨_, h⟩
            · subst h; cases hlt
            · subst h
              obtain rfl : k = 0 := by simp at hlt; exact hlt
              rfl
          have HH : Hid ((d = [] → xhost = host) ∧ (d ≠ [] → belongsC xhost d = true) ∧ (p ≠ [] → underC xpath p = true)) := by
            rcases TW.out with h | ⟨h, _⟩
            · subst h; cases hlt
            · have h2 := own_only h
              exact ⟨h2.1, h2.2.1, h2.2.2.1⟩
          rw [hcc] at c0 c1
          simp only at c0 c1
          have RB := Lib.hid (fun wx => rbelongs_any (bs xhost) (bs d) wx (by rw [size_bs]; exact XH.out) (by rw [size_bs]; exact FC.out.d))
          have RU := Lib.hid (fun wx => runder_any (bs xpath) (bs p) wx (by rw [size_bs]; exact XP.out) (by rw [size_bs]; exact FC.out.p))
          simp only [L_bs] at RB RU
          clear hcc TW
          go_upto_region 25 with fail
          all_goals (try (exfalso; omega))
          have KC := Lib.hid (CellsAt.first wq [.string (bs nm), .string (bs v)] tCk)
          have BA := Lib.hid (below_put2 (w := wq) (cs := #[.string (bs nm), .string (bs v)]) (T := tCk))
          have OO2 := Lib.hid (OO.out.next BA.out)
          have BB2 := Lib.hid (BB.out.trans (BA.out.mono BB.out.size))
          have z0 := KC.out.at 0 _ rfl
          have z1 := KC.out.at 1 _ rfl
          clear c0 c1 BA KC OO BB
          generalize wq.alloc _ = w11 at *
          have d1 : w11.cell? ⟨b, 1, none⟩ = some (.string (bs nm)) := OO2.out.k.at 1 _ rfl
          have d2 : w11.cell? ⟨b, 2, none⟩ = some (.string (bs v)) := OO2.out.k.at 2 _ rfl
          have d3 : w11.cell? ⟨b, 3, none⟩ = some (.string (bs p)) := OO2.out.k.at 3 _ rfl
          have d4 : w11.cell? ⟨b, 4, none⟩ = some (.string (bs d)) := OO2.out.k.at 4 _ rfl
          have d12 : w11.cell? ⟨b, 12, none⟩ = some (.string (bs host)) := OO2.out.k.at 12 _ rfl
          have HDE : Hid ((bs d).toList.isEmpty = decide (d = [])) := by have := str_empty (bs d); rw [L_bs] at this; exact this
          have CP : ((bs p).toList.isEmpty = true) ∨ ((bs p).toList.isEmpty = false ∧ underC xpath p = true) := by
            by_cases hp : p = []
            · exact Or.inl (by rw [HPE.out]; exact decide_eq_true hp)
            · exact Or.inr ⟨by rw [HPE.out]; exact decide_eq_false hp, HH.out.2.2 hp⟩
          have CD : ((bs d).toList.isEmpty = true ∧ ((bs xhost).toList == (bs host).toList) = true) ∨ ((bs d).toList.isEmpty = false ∧ belongsC xhost d = true) := by
            by_cases hd : d = []
            · exact Or.inl ⟨by rw [HDE.out]; exact decide_eq_true hd, eq_str (HH.out.1 hd)⟩
            · exact Or.inr ⟨by rw [HDE.out]; exact decide_eq_false hd, HH.out.2.1 hd⟩
          clear HDE HH
          go_upto_region 27 with fail
          go_cut [16] (fun s wx => s = .bool false ∧ wx = w11)
          case first => as_aux_lemma =>
            rcases CD with ⟨h1, h2⟩ | ⟨h1, h2⟩
            · clear RB RU
              go_wp2_with fail
              go_meet
              case rel => exact ⟨by simp, rfl⟩
            · rw [h2] at RB
              clear h2
              go_wp2_with fail
              refine (RB.out _).mono ?_; rintro e w' ⟨rfl, rfl⟩
              go_wp2_with fail
              go_meet
              case rel => exact ⟨by simp, rfl⟩
          case rest => as_aux_lemma =>
          obtain ⟨rfl, hwc⟩ := hcut
          rw [hwc]
          clear hwc RB CD d1 d2 d4 d12
          rcases CP with h1 | ⟨h1, h2⟩
          · clear RU
            go_wp2_with fail
            go_roundw
            case rel => exact ⟨k + 1, by omega, by go_num, OO2, BB2⟩
            case measure => simp [intOf]; omega
          · rw [h2] at RU
            clear h2
            go_wp2_with fail
            refine (RU.out _).mono ?_; rintro e w' ⟨rfl, rfl⟩
            go_wp2_with fail
            go_roundw
            case rel => exact ⟨k + 1, by omega, by go_num, OO2, BB2⟩
            case measure => simp [intOf]; omega
        · as_aux_lemma =>
          obtain rfl : k = L2.length := by omega
          clear TW R10 BB
          have d3 : wq.cell? ⟨b, 3, none⟩ = some (.string (bs p)) := OO.out.k.at 3 _ rfl
          have d5 : wq.cell? ⟨b, 5, none⟩ = some (.int .i64 ma) := OO.out.k.at 5 _ rfl
          have d6 : wq.cell? ⟨b, 6, none⟩ = some (.bool hm) := OO.out.k.at 6 _ rfl
          have d12 : wq.cell? ⟨b, 12, none⟩ = some (.string (bs host)) := OO.out.k.at 12 _ rfl
          go_upto_region 31 with fail
          all_goals (try (exfalso; omega))
          go_cut [235] (fun t wx => t = .bool (hm && (decide (0 ≤ later) && decide (later < 1099511627776))) ∧ wx = wq)
          case first => as_aux_lemma =>
            cases hm
            all_goals
              go_wp2_with fail
              all_goals
                go_meet
                case rel => exact ⟨by simp [*] <;> omega, rfl⟩
          case rest => as_aux_lemma =>
          obtain ⟨rfl, hwc⟩ := hcut
          rw [hwc]
          clear hwc
          cases hT : (hm && (decide (0 ≤ later) && decide (later < 1099511627776)))
          · clear hT
            go_wp2_with fail
            go_ret
            exact ⟨rfl, OO.out.bl⟩
          · have hm1 : hm = true ∧ 0 ≤ later ∧ later < 1099511627776 := by simpa using hT
            have G3 := Lib.hid (GT.out wq OO.out.j host own true (now + ma + later) FH.out OL.out)
            rw [get_over ((over_iff _ _ _ _ _).2 (Or.inl ⟨hm1.1, by show now + ma ≤ now + ma + later; omega⟩))] at G3
            have NOV2 : Hid ((kpOf (⟨nm, v, p, d, ma, hm, ex, he, sc, ht, sm⟩ : SetC) host path now).over (now + ma - 1) = false) := by
              unfold Hid
              cases hov : (kpOf (⟨nm, v, p, d, ma, hm, ex, he, sc, ht, sm⟩ : SetC) host path now).over (now + ma - 1) with
              | false => rfl
              | true =>
                rcases (over_iff _ _ _ _ _).1 hov with h | h
                · have h2 : now + ma ≤ now + ma - 1 := h.2
                  omega
                · have h1 : hm = false := h.1
                  rw [hm1.1] at h1
                  cases h1
            have hr1 : IntKind.i64.wrap (now + ma) = now + ma := IntWalk.i64_in _ (by omega)
            have hr2 : IntKind.i64.wrap (now + ma + later) = now + ma + later := IntWalk.i64_in _ (by omega)
            have hr3 : IntKind.i64.wrap (now + ma - 1) = now + ma - 1 := IntWalk.i64_in _ (by omega)
            clear hm1 hT
            go_wp2_with fail
            refine G3.out.mono ?_; rintro e w12 ⟨⟨v12, rfl, hr12⟩, hb12⟩
            have O12 := Lib.hid (OO.out.next hb12)
            obtain ⟨so12, co12, hv12⟩ := row_slice hr12
            subst hv12
            rw [List.length_nil]
            clear OO G3 hb12 hr12 d3 d5 d6 d12
            have d3 : w12.cell? ⟨b, 3, none⟩ = some (.string (bs p)) := O12.out.k.at 3 _ rfl
            have d5 : w12.cell? ⟨b, 5, none⟩ = some (.int .i64 ma) := O12.out.k.at 5 _ rfl
            have d6 : w12.cell? ⟨b, 6, none⟩ = some (.bool hm) := O12.out.k.at 6 _ rfl
            have d12 : w12.cell? ⟨b, 12, none⟩ = some (.string (bs host)) := O12.out.k.at 12 _ rfl
            by_cases hp : p = []
            · have hp1 : (bs p).toList.isEmpty = true := by rw [HPE.out]; exact decide_eq_true hp
              clear hp
              go_wp2_with fail
              go_ret
              exact ⟨ret_bool (by simp), O12.out.bl⟩
            · have hp1 : (bs p).toList.isEmpty = false := by rw [HPE.out]; exact decide_eq_false hp
              have G4 := Lib.hid (GT.out w12 O12.out.j host own true (now + ma - 1) FH.out OL.out)
              rw [get_own FO.out hp (by rw [← OWN.out, if_neg hp]) NOV2.out] at G4
              clear hp
              go_wp2_with fail
              refine G4.out.mono ?_; rintro e w13 ⟨⟨v13, rfl, hr13⟩, hb13⟩
              have D13 := Lib.hid (O12.out.bl.trans (hb13.mono O12.out.bl.size))
              obtain ⟨so13, co13, hv13⟩ := row_slice hr13
              subst hv13
              have hl13 : ([(nm, v)] : List Ck).length = 1 := rfl
              rw [hl13]
              clear O12 G4 hb13 hr13 d3 d5 d6 d12
              go_wp2_with fail
              go_ret
              exact ⟨ret_bool (by simp), D13.out⟩
end Go.Proofs.YtkenianfpfamcaaGreatDoor
