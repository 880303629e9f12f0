/- A cookie is set in a jar. -/
import Derived.Test.YtkenianfpfamcaaGreatDoorMm
import Derived.Deep.CutBlock
import Derived.Deep.RegionLaw
namespace Go.Proofs.YtkenianfpfamcaaGreatDoor
open Go Go.RowKit Go.Maps Go.WideMaps
set_option maxHeartbeats 16000000

/-- how a setting ends -/
def SetPost (w : World) (jb mb most next : Nat) (V : Int) (R : List Kp) (e : Ending) (w' : World) : Prop :=
  e = .returned (.int .i64 V) ∧ Keeps (fun i => i = jb ∨ i = mb) w w' ∧ ∃ l' next', JarAt w' jb mb most next' l' ∧ l'.map It.k = R ∧ next ≤ next' ∧ next' ≤ next + 1
theorem SetPost.same {w w' : World} {jb mb most next : Nat} {l : List It} {V : Int} {R : List Kp} (hJ : JarAt w jb mb most next l) (hb : Below w.heap.size w w') (hR : R = l.map It.k) : SetPost w jb mb most next V R (.returned (.int .i64 V)) w' :=
  ⟨rfl, Keeps.of hb (Nat.le_refl _), l, next, hJ.next_ hb, hR.symm, Nat.le_refl _, Nat.le_succ _⟩
theorem setJ_bad {most : Nat} {l : List Kp} {c : SetC} {host path : List UInt8} {secure : Bool} {now : Int} (h : failC l c host path secure now ≠ 0) : setJ most l c host path secure now = l := if_neg h
/-- how many entries a map has: off the world -/
def mapLen (w : World) (b : Nat) : Nat := match w.heap[b]? with | some (.map es _) => es.size | _ => 0
theorem mapLen_of {w : World} {k : TypeId} {R : Value → Option (DataW Unit × List MemPlace)} {b n : Nat} {D : DataW Unit} (h : w.ownsMap Tryz.prog k R b n D) : mapLen w b = Maps.size D := by
  obtain ⟨es, clock, h1, F, hs, hD⟩ := h
  unfold mapLen
  rw [h1, hD]
  show es.size = ((es.toList.map _).foldr DataW.insert []).length
  rw [length_sorted, List.length_map]
  rfl
theorem ptr_cons {w : World} {base : Nat} {sp : Option Addr} {bl : List Nat} (h : bl = [] ∨ ∃ g, sp = some ⟨g, 0, none⟩ ∧ base ≤ g ∧ g < w.heap.size ∧ ∀ i (h : i < bl.length), w.cell? ⟨g, i, none⟩ = some (ptrV bl[i])) (hl : 0 < bl.length) :
    ∃ g, sp = some ⟨g, 0, none⟩ ∧ base ≤ g ∧ g < w.heap.size ∧ ∀ i (h : i < bl.length), w.cell? ⟨g, i, none⟩ = some (ptrV bl[i]) := by
  rcases h with h | h
  · rw [h] at hl; cases hl
  · exact h
theorem defpath_le (l : List UInt8) : (defPathC l).length ≤ l.length ∨ (defPathC l).length = 1 := by
  unfold defPathC
  split
  · left
    unfold dirC
    have := dropWhile_le (fun c => decide (c ≠ 47)) l.reverse
    simp at this ⊢
    omega
  · right; rfl
theorem mom_iff (now : Int) : isMom now = true ↔ (-62135596800 ≤ now ∧ now ≤ 253402300799) := by unfold isMom; simp
set_option maxRecDepth 100000 in
theorem set_any (w : World) (jb mb most next : Nat) (l : List It) (c : SetC) (host path : ByteArray) (secure : Bool) (now : Int) (hJ : JarAt w jb mb most next l) (hE : EnvK w) (hf : FitC c) (hh : host.size ≤ 1073741824) (hp : path.size ≤ 1073741824)
    (hn : next < 1099511627776) (hl : l.length ≤ most) (hm1 : 1 ≤ most) :
    Calls Tryz.prog 26 #[ptrV jb, .agg (cellsS c).toArray, .string host, .string path, .bool secure, .int .i64 now] w (SetPost w jb mb most next (failC (l.map It.k) c (L host) (L path) secure now) (setJ most (l.map It.k) c (L host) (L path) secure now)) := by
  have hfe := fail_eq l c (L host) (L path) secure now
  have hbad := @setJ_bad most (l.map It.k) c (L host) (L path) secure now
  have HG : Hid (failC (l.map It.k) c (L host) (L path) secure now = 0 → setJ most (l.map It.k) c (L host) (L path) secure now = trimJ most now (putC (l.map It.k) (kpOf c (L host) (L path) now))) := fun h => if_pos h
  obtain ⟨R, hR⟩ := name_it (setJ most (l.map It.k) c (L host) (L path) secure now)
  rw [hR.out] at hbad HG ⊢
  clear hR
  have K1 := Lib.hid (CellsAt.first w (cellsS c) tS)
  have B1 := Lib.hid (below_put2 (w := w) (cs := (cellsS c).toArray) (T := tS))
  have J1 := Lib.hid (hJ.next_ B1.out)
  have E1 := Lib.hid (hE.alloc (.cells (cellsS c).toArray tS))
  have PS := Lib.hid (fun wx (h : EnvK wx) => printset_any c wx h hf)
  have LC := Lib.hid (fun wx => defpath_any path wx hp)
  have J := Lib.hid hJ
  have GV : Hid (9 ≤ w.heap.size) := hE.t.n
  obtain ⟨V, hV⟩ := name_it (failC (l.map It.k) c (L host) (L path) secure now)
  simp only [hV.out] at hbad HG hfe ⊢
  clear hV
  have hL1 : 0 < w.heap.size := by have := hJ.jar.lt; omega
  obtain ⟨c', hc'⟩ : ∃ c', c' = c := ⟨c, rfl⟩
  have HC := Lib.hid hc'
  have f0 := hf
  have WR := Lib.hid (fun (wx : World) (h : JarAt wx jb mb most next l) (k : K3) (hk : FitK k) => wrong_any wx jb mb most next l c k host secure now h hk hf hh)
  clear hJ hE hc'
  obtain ⟨n, v, p, d, ma, hm, ex, he, sc, ht, sm⟩ := c
  unfold cellsS at K1 B1 J1 E1 PS WR ⊢
  unfold ptrV at WR ⊢
  simp only at K1 B1 J1 E1 PS WR ⊢
  have ep := empty_iff p
  have ed := empty_iff d
  obtain ⟨dE, hdE⟩ := name_it (decide (d = []))
  obtain ⟨pE, hpE⟩ := name_it (decide (p = []))
  rw [hdE.out] at ed
  rw [hpE.out] at ep
  by_cases hmo : isMom now = true
  case neg =>
    have hmo' : isMom now = false := by simpa using hmo
    have HV : Hid (V = 1) := by rw [hfe, if_pos hmo']; rfl
    have HR : Hid (R = l.map It.k) := hbad (by rw [HV.out]; decide)
    have hc : now < -62135596800 ∨ (-62135596800 ≤ now ∧ 253402300799 < now) := by
      by_cases h1 : now < -62135596800
      · exact Or.inl h1
      · refine Or.inr ⟨by omega, ?_⟩
        by_cases h2 : 253402300799 < now
        · exact h2
        · exact absurd ((mom_iff now).2 ⟨by omega, by omega⟩) hmo
    clear hfe hbad HG PS LC WR hmo hmo' E1 K1 J1
    rcases hc with hc | ⟨hc, hc2⟩
    all_goals
      go_enter Tryz.func26, Tryz.ntmps26
      go_wp2_with fail
      all_goals (try (exfalso; omega))
      go_ret
      have := SetPost.same (V := V) J.out B1.out HR.out
      rw [HV.out] at this ⊢
      exact this
  case pos =>
    obtain ⟨mo1, mo2⟩ := (mom_iff now).1 hmo
    rw [if_neg (by rw [hmo]; decide)] at hfe
    by_cases hwr : wrongC ⟨n, v, p, d, ma, hm, ex, he, sc, ht, sm⟩ = 0
    case neg =>
      have HV : Hid (V = wrongC ⟨n, v, p, d, ma, hm, ex, he, sc, ht, sm⟩) := by rw [hfe, if_pos hwr]; rfl
      have HR : Hid (R = l.map It.k) := hbad (by rw [HV.out]; exact hwr)
      have PV := printSV_bad (c := ⟨n, v, p, d, ma, hm, ex, he, sc, ht, sm⟩) rfl hwr
      rw [PV] at PS
      obtain ⟨e0, he0⟩ := name_it (wrongC ⟨n, v, p, d, ma, hm, ex, he, sc, ht, sm⟩)
      rw [he0.out] at PS HV hwr
      have hb0 : (e0 == 0) = false := by simpa using hwr
      clear hfe hbad HG LC WR hmo PV he0
      go_enter Tryz.func26, Tryz.ntmps26
      go_wp2_with fail
      all_goals (try (exfalso; omega))
      refine (PS.out _ E1.out).mono ?_; rintro e w2 ⟨rfl, hb2⟩
      have D2 := Lib.hid (B1.out.trans (hb2.mono B1.out.size))
      go_wp2_with fail
      all_goals (try (exfalso; omega))
      go_ret
      rw [HV.out]
      exact SetPost.same J.out D2.out HR.out
    case pos =>
      rw [if_neg (by rw [hwr]; decide)] at hfe
      have PV := printSV_ok (c := ⟨n, v, p, d, ma, hm, ex, he, sc, ht, sm⟩) hwr
      rw [PV] at PS
      obtain ⟨T, hT⟩ := name_it (textC ⟨n, v, p, d, ma, hm, ex, he, sc, ht, sm⟩)
      rw [hT.out] at PS
      clear PV hT hmo
      go_enter Tryz.func26, Tryz.ntmps26
      go_wp2_with fail
      all_goals (try (exfalso; omega))
      refine (PS.out _ E1.out).mono ?_; rintro e w2 ⟨rfl, hb2⟩
      have K2 := Lib.hid (K1.out.next hb2)
      have J2 := Lib.hid (J1.out.next_ hb2)
      have E2 := Lib.hid (E1.out.next hb2)
      have D2 := Lib.hid (B1.out.trans (hb2.mono B1.out.size))
      clear K1 J1 E1 B1 hb2 PS
      have d0 := K2.out.at 0 _ rfl
      have d2 := K2.out.at 2 _ rfl
      have d3 := K2.out.at 3 _ rfl
      have KB := Lib.hid (CellsAt.first w2 [.string (bs n), .string (bs d), .string (bs p)] tKey)
      have B3 := below_put2 (w := w2) (cs := #[.string (bs n), .string (bs d), .string (bs p)]) (T := tKey)
      have KC := Lib.hid (K2.out.next B3)
      have J3 := Lib.hid (J2.out.next_ B3)
      have E3 := Lib.hid (E2.out.next B3)
      have D3 := Lib.hid (D2.out.trans (B3.mono D2.out.size))
      have G3 : Hid (w.heap.size < w2.heap.size) := K2.out.lt
      have KB : Hid (CellsAt (w2.alloc (.cells #[.string (bs n), .string (bs d), .string (bs p)] tKey)) w2.heap.size [.string (bs n), .string (bs d), .string (bs p)]) := KB
      go_upto_if 49 with fail
      clear d0 d2 d3 K2 J2 E2 D2 B3
      generalize w2.alloc _ = w3 at KB KC J3 E3 D3 ⊢
      obtain ⟨kb, hkb⟩ : ∃ kb, kb = w2.heap.size := ⟨_, rfl⟩
      rw [← hkb] at KB G3
      rw [← hkb]
      clear hkb
      obtain ⟨dd, hdd⟩ := name_it (if d = [] then L host else d)
      obtain ⟨pp, hpp⟩ := name_it (if p = [] then defPathC (L path) else p)
      go_cut [] (fun wx => Hid (CellsAt wx kb [.string (bs n), .string (bs dd), .string (bs p)]) ∧ Hid (Keeps (fun i => i = kb) w3 wx))
      case first =>
        have z1 := KB.out.at 1 _ rfl
        have y1 := KB.out.free 1
        cases dE with
        | true =>
          have hdh : Hid (dd = L host) := by rw [← hdd.out, if_pos (of_decide_eq_true hdE.out)]; rfl
          have KS := Lib.hid (KB.out.set 1 (by simp) (.string host))
          go_wp2_with fail
          go_meet
          case rel => exact ⟨by rw [hdh.out]; exact KS, Keeps.set (S := fun i => i = kb) rfl _ _ _⟩
        | false =>
          have hdh : Hid (dd = d) := by rw [← hdd.out, if_neg (of_decide_eq_false hdE.out)]; rfl
          go_wp2_with fail
          go_meet
          case rel => exact ⟨by rw [hdh.out]; exact KB, Keeps.refl _ _⟩
      case rest =>
        obtain ⟨kb4, kp4⟩ := hcut
        have NJ : Hid (∀ x ∈ l, x.blk ≠ kb) := fun x hx => by have := (J.out.its x hx).lt; have := G3.out; omega
        have NB : Hid (jb ≠ kb ∧ mb ≠ kb) := ⟨by have := J.out.jar.lt; have := G3.out; omega, by obtain ⟨D, h, _⟩ := J.out.map; have := h.lt; have := G3.out; omega⟩
        have KC4 := Lib.hid (KC.out.keeps kp4.out (by have := G3.out; omega))
        have J4 := Lib.hid (J3.out.keeps kp4.out (fun e => NB.out.1 e) (fun e => NB.out.2 e) (fun x hx => NJ.out x hx))
        have D4 := Lib.hid (D3.out.trans (kp4.out.below (B := w.heap.size) (fun i hi h => by have := G3.out; omega) D3.out.size))
        clear KB KC J3 E3 D3 kp4
        generalize wc = w4 at kb4 KC4 J4 D4 ⊢
        have d2 := KC4.out.at 2 _ rfl
        go_upto_if 54 with fail
        go_cut [] (fun wx => Hid (CellsAt wx kb [.string (bs n), .string (bs dd), .string (bs pp)]) ∧ Hid (Keeps (fun i => i = kb) w4 wx))
        case first =>
          have z2 := kb4.out.at 2 _ rfl
          have y2 := kb4.out.free 2
          cases pE with
          | true =>
            have hph : Hid (pp = defPathC (L path)) := by rw [← hpp.out, if_pos (of_decide_eq_true hpE.out)]; rfl
            have KS := Lib.hid (kb4.out.set 2 (by simp) (.string (bs (defPathC (L path)))))
            go_wp2_with (go_at_call 67; refine (LC.out _).mono ?_; rintro e w' ⟨rfl, rfl⟩)
            go_meet
            case rel => exact ⟨by rw [hph.out]; exact KS, Keeps.set (S := fun i => i = kb) rfl _ _ _⟩
          | false =>
            have hph : Hid (pp = p) := by rw [← hpp.out, if_neg (of_decide_eq_false hpE.out)]; rfl
            go_wp2_with fail
            go_meet
            case rel => exact ⟨by rw [hph.out]; exact kb4, Keeps.refl _ _⟩
        case rest =>
          obtain ⟨kb5, kp5⟩ := hcut
          have KC5 := Lib.hid (KC4.out.keeps kp5.out (by have := G3.out; omega))
          have J5 := Lib.hid (J4.out.keeps kp5.out (fun e => NB.out.1 e) (fun e => NB.out.2 e) (fun x hx => NJ.out x hx))
          have D5 := Lib.hid (D4.out.trans (kp5.out.below (B := w.heap.size) (fun i hi h => by have := G3.out; omega) D4.out.size))
          clear kb4 KC4 J4 D4 kp5 d2 LC
          generalize wc = w5 at kb5 KC5 J5 D5 ⊢
          have hkey : keyOfC ⟨n, v, p, d, ma, hm, ex, he, sc, ht, sm⟩ (L host) (L path) = (n, dd, pp) := by
            unfold keyOfC
            simp only [hdd.out, hpp.out]
          rw [hkey] at hfe
          have hfk : FitK (n, dd, pp) := by
            refine ⟨hf.n, ?_, ?_⟩
            · show dd.length ≤ _
              rw [← hdd.out]
              split
              · rw [L_length]; exact hh
              · exact hf.d
            · show pp.length ≤ _
              rw [← hpp.out]
              split
              · have := defpath_le (L path)
                rw [L_length] at this
                omega
              · exact hf.p
          have HFK := Lib.hid hfk
          have W5 := Lib.hid (WR.out w5 J5.out (n, dd, pp) hfk)
          rw [← hfe] at W5
          unfold keyV at W5
          simp only at W5
          have e0 := KC5.out.at 0 _ rfl
          have e1 := KC5.out.at 1 _ rfl
          have e2 := KC5.out.at 2 _ rfl
          have e3 := KC5.out.at 3 _ rfl
          have e4 := KC5.out.at 4 _ rfl
          have e5 := KC5.out.at 5 _ rfl
          have e6 := KC5.out.at 6 _ rfl
          have e7 := KC5.out.at 7 _ rfl
          have e8 := KC5.out.at 8 _ rfl
          have e9 := KC5.out.at 9 _ rfl
          have e10 := KC5.out.at 10 _ rfl
          have g0 := kb5.out.at 0 _ rfl
          have g1 := kb5.out.at 1 _ rfl
          have g2 := kb5.out.at 2 _ rfl
          clear hkey WR hfk
          go_wp2_with fail
          refine W5.out.mono ?_; rintro e w6 ⟨rfl, hb6⟩
          have KB6 := Lib.hid (kb5.out.next hb6)
          have KC6 := Lib.hid (KC5.out.next hb6)
          have J6 := Lib.hid (J5.out.next_ hb6)
          have D6 := Lib.hid (D5.out.trans (hb6.mono D5.out.size))
          clear kb5 KC5 J5 D5 W5 hb6 e0 e1 e2 e3 e4 e5 e6 e7 e8 e9 e10 g0 g1 g2
          by_cases hv0 : V = 0
          case neg =>
            have hvb : (V == 0) = false := by simpa using hv0
            have HR : Hid (R = l.map It.k) := hbad hv0
            clear hv0 hfe hbad HG
            go_wp2_with fail
            go_ret
            exact SetPost.same J.out D6.out HR.out
          case pos =>
            subst hv0
            have HR := Lib.hid (HG.out rfl)
            clear HG hbad hfe
            have e0 := KC6.out.at 0 _ rfl
            have e1 := KC6.out.at 1 _ rfl
            have e2 := KC6.out.at 2 _ rfl
            have e3 := KC6.out.at 3 _ rfl
            have e4 := KC6.out.at 4 _ rfl
            have e5 := KC6.out.at 5 _ rfl
            have e6 := KC6.out.at 6 _ rfl
            have e7 := KC6.out.at 7 _ rfl
            have e8 := KC6.out.at 8 _ rfl
            have e9 := KC6.out.at 9 _ rfl
            have e10 := KC6.out.at 10 _ rfl
            have g0 := KB6.out.at 0 _ rfl
            have g1 := KB6.out.at 1 _ rfl
            have g2 := KB6.out.at 2 _ rfl
            have j2 := J6.out.jar.at 2 _ rfl
            go_upto_region 15 with fail
            go_region_held3 (fun W => W.cell? ⟨w.heap.size, 0, none⟩ = some (.string (bs n)) ∧ W.cell? ⟨w.heap.size, 1, none⟩ = some (.string (bs v)) ∧ W.cell? ⟨w.heap.size, 2, none⟩ = some (.string (bs p)) ∧ W.cell? ⟨w.heap.size, 3, none⟩ = some (.string (bs d)) ∧ W.cell? ⟨w.heap.size, 4, none⟩ = some (.int .i64 ma) ∧ W.cell? ⟨w.heap.size, 5, none⟩ = some (.bool hm) ∧ W.cell? ⟨w.heap.size, 6, none⟩ = some (.int .i64 ex) ∧ W.cell? ⟨w.heap.size, 7, none⟩ = some (.bool he) ∧ W.cell? ⟨w.heap.size, 8, none⟩ = some (.bool sc) ∧ W.cell? ⟨w.heap.size, 9, none⟩ = some (.bool ht) ∧ W.cell? ⟨w.heap.size, 10, none⟩ = some (.int .i64 sm) ∧ W.cell? ⟨kb, 0, none⟩ = some (.string (bs n)) ∧ W.cell? ⟨kb, 1, none⟩ = some (.string (bs dd)) ∧ W.cell? ⟨kb, 2, none⟩ = some (.string (bs pp)) ∧ W.cell? ⟨jb, 2, none⟩ = some (.int .i64 next)) (go_keep) (fail)
            clear e0 e1 e2 e3 e4 e5 e6 e7 e8 e9 e10 g0 g1 g2 j2
            have B7 : Below w6.heap.size w6 ((w6.alloc (.cells #[.string (bs n), .string (bs v), .string (bs p), .string (bs d), .int .i64 ma, .bool hm, .int .i64 ex, .bool he, .bool sc, .bool ht, .int .i64 sm, .string (bs n), .string (bs dd), .string (bs pp), .bool (!dE), .int .i64 0, .bool false, .int .i64 next] tKept)).drew) := ((Below.refl _ _).alloc (Nat.le_refl _) _).drew
            have KX7 : Hid (CellsAt ((w6.alloc (.cells #[.string (bs n), .string (bs v), .string (bs p), .string (bs d), .int .i64 ma, .bool hm, .int .i64 ex, .bool he, .bool sc, .bool ht, .int .i64 sm, .string (bs n), .string (bs dd), .string (bs pp), .bool (!dE), .int .i64 0, .bool false, .int .i64 next] tKept)).drew) w6.heap.size [.string (bs n), .string (bs v), .string (bs p), .string (bs d), .int .i64 ma, .bool hm, .int .i64 ex, .bool he, .bool sc, .bool ht, .int .i64 sm, .string (bs n), .string (bs dd), .string (bs pp), .bool (!dE), .int .i64 0, .bool false, .int .i64 next]) := (CellsAt.first w6 [.string (bs n), .string (bs v), .string (bs p), .string (bs d), .int .i64 ma, .bool hm, .int .i64 ex, .bool he, .bool sc, .bool ht, .int .i64 sm, .string (bs n), .string (bs dd), .string (bs pp), .bool (!dE), .int .i64 0, .bool false, .int .i64 next] tKept).next ((Below.refl _ _).drew)
            have KB7 := Lib.hid (KB6.out.next B7)
            have KC7 := Lib.hid (KC6.out.next B7)
            have J7 := Lib.hid (J6.out.next_ B7)
            have D7 := Lib.hid (D6.out.trans (B7.mono D6.out.size))
            have GX : Hid (kb < w6.heap.size) := KB6.out.lt
            have NX : Hid ((∀ x ∈ l, x.blk ≠ w6.heap.size) ∧ jb ≠ w6.heap.size ∧ mb ≠ w6.heap.size) := ⟨fun x hx => by have := (J6.out.its x hx).lt; omega, by have := J6.out.jar.lt; omega, by obtain ⟨D, h, _⟩ := J6.out.map; have := h.lt; omega⟩
            clear B7 KB6 KC6 J6 D6
            (try go_frame)
            generalize (w6.alloc _).drew = w7 at KX7 KB7 KC7 J7 D7 ⊢
            obtain ⟨xb, hxb⟩ : ∃ xb, xb = w6.heap.size := ⟨_, rfl⟩
            rw [← hxb] at KX7 GX NX
            rw [← hxb]
            clear hxb
            have z2 := KX7.out.at 2 _ rfl
            have y2 := KX7.out.free 2
            have g2 := KB7.out.at 2 _ rfl
            have KX8 : Hid (CellsAt (w7.setCell ⟨xb, 2, none⟩ (.string (bs pp))) xb [.string (bs n), .string (bs v), .string (bs pp), .string (bs d), .int .i64 ma, .bool hm, .int .i64 ex, .bool he, .bool sc, .bool ht, .int .i64 sm, .string (bs n), .string (bs dd), .string (bs pp), .bool (!dE), .int .i64 0, .bool false, .int .i64 next]) := KX7.out.set 2 (by simp) _
            have P8 : Hid (Keeps (fun i => i = xb) w7 (w7.setCell ⟨xb, 2, none⟩ (.string (bs pp)))) := Keeps.set (S := fun i => i = xb) rfl _ _ _
            have hwp := wrong_parts hwr
            (try simp only at hwp)
            obtain ⟨-, -, -, ⟨ma0, ma1, -⟩, ⟨hmex, -⟩, -⟩ := hwp
            go_upto_block 0 with fail
            clear z2 y2 g2
            have KC8 := Lib.hid (KC7.out.keeps P8.out (by have := G3.out; have := GX.out; omega))
            have KB8 := Lib.hid (KB7.out.keeps P8.out (by have := GX.out; omega))
            have J8 := Lib.hid (J7.out.keeps P8.out (fun e => NX.out.2.1 e) (fun e => NX.out.2.2 e) (fun x hx => NX.out.1 x hx))
            have D8 := Lib.hid (D7.out.trans (P8.out.below (B := w.heap.size) (fun i hi h => by have := G3.out; have := GX.out; omega) D7.out.size))
            clear KX7 KB7 KC7 J7 D7 P8
            generalize w7.setCell _ _ = w8 at KX8 KB8 KC8 J8 D8 ⊢
            obtain ⟨till, htill⟩ := name_it (if hm = true then now + ma else if he = true then ex else 0)
            obtain ⟨ends, hends⟩ := name_it (hm || he)
            go_cut [] (fun wx => Hid (CellsAt wx xb [.string (bs n), .string (bs v), .string (bs pp), .string (bs d), .int .i64 ma, .bool hm, .int .i64 ex, .bool he, .bool sc, .bool ht, .int .i64 sm, .string (bs n), .string (bs dd), .string (bs pp), .bool (!dE), .int .i64 till, .bool ends, .int .i64 next]) ∧ Hid (Keeps (fun i => i = xb) w8 wx))
            case first =>
              have e4 := KC8.out.at 4 _ rfl
              have e5 := KC8.out.at 5 _ rfl
              have e6 := KC8.out.at 6 _ rfl
              have e7 := KC8.out.at 7 _ rfl
              have z15 := KX8.out.at 15 _ rfl
              have z16 := KX8.out.at 16 _ rfl
              have y15 := KX8.out.free 15
              have y16 := KX8.out.free 16
              have KS : Hid (∀ u : Int, CellsAt ((w8.setCell ⟨xb, 15, none⟩ (.int .i64 u)).setCell ⟨xb, 16, none⟩ (.bool true)) xb [.string (bs n), .string (bs v), .string (bs pp), .string (bs d), .int .i64 ma, .bool hm, .int .i64 ex, .bool he, .bool sc, .bool ht, .int .i64 sm, .string (bs n), .string (bs dd), .string (bs pp), .bool (!dE), .int .i64 u, .bool true, .int .i64 next]) := fun u => (KX8.out.set 15 (by simp) (.int .i64 u)).set 16 (by simp) (.bool true)
              have PS2 : Hid (∀ u : Int, Keeps (fun i => i = xb) w8 ((w8.setCell ⟨xb, 15, none⟩ (.int .i64 u)).setCell ⟨xb, 16, none⟩ (.bool true))) := fun u => (Keeps.set (S := fun i => i = xb) rfl _ _ _).trans (Keeps.set (S := fun i => i = xb) rfl _ _ _)
              cases hm with
              | true =>
                have ht1 : Hid (till = now + ma) := htill.out.symm
                have he1 : Hid (ends = true) := hends.out.symm
                go_wp2_with fail
                all_goals (try (exfalso; omega))
                go_meet
                case rel => exact ⟨by rw [ht1.out, he1.out]; exact KS.out _, PS2.out _⟩
              | false =>
                cases he with
                | true =>
                  have ht1 : Hid (till = ex) := htill.out.symm
                  have he1 : Hid (ends = true) := hends.out.symm
                  go_wp2_with fail
                  go_meet
                  case rel => exact ⟨by rw [ht1.out, he1.out]; exact KS.out _, PS2.out _⟩
                | false =>
                  have ht1 : Hid (till = 0) := htill.out.symm
                  have he1 : Hid (ends = false) := hends.out.symm
                  go_wp2_with fail
                  go_meet
                  case rel => exact ⟨by rw [ht1.out, he1.out]; exact KX8, Keeps.refl _ _⟩
            case rest =>
              obtain ⟨kx9, kp9⟩ := hcut
              have KC9 := Lib.hid (KC8.out.keeps kp9.out (by have := G3.out; have := GX.out; omega))
              have KB9 := Lib.hid (KB8.out.keeps kp9.out (by have := GX.out; omega))
              have J9 := Lib.hid (J8.out.keeps kp9.out (fun e => NX.out.2.1 e) (fun e => NX.out.2.2 e) (fun x hx => NX.out.1 x hx))
              have D9 := Lib.hid (D8.out.trans (kp9.out.below (B := w.heap.size) (fun i hi h => by have := G3.out; have := GX.out; omega) D8.out.size))
              clear KX8 KB8 KC8 J8 D8 kp9
              generalize wc = w9 at kx9 KB9 KC9 J9 D9 ⊢
              have ftill : Hid (-9223372036854775808 ≤ till ∧ till ≤ 9223372036854775807) := by
                rw [← htill.out]
                split
                · exact ⟨by omega, by omega⟩
                · split
                  · rename_i h
                    have := (mom_iff ex).1 (hmex h)
                    exact ⟨by omega, by omega⟩
                  · exact ⟨by omega, by omega⟩
              obtain ⟨D, hown, hsay⟩ := J9.out.map
              have hod := hown.drew
              obtain ⟨vw, pl, hrun, hvw⟩ := hod.lookup lawK undM (zeroP _) RJ_nil (keyOf_K (n, dd, pp) HFK.out)
              have hvv := was_val hsay HFK.out hvw
              subst hvv
              have g0 := KB9.out.at 0 _ rfl
              have g1 := KB9.out.at 1 _ rfl
              have g2 := KB9.out.at 2 _ rfl
              have j1 := J9.out.jar.at 1 _ rfl
              have hrun : (Instr.lookup 118 (.map (some mb)) (.agg #[.string (bs n), .string (bs dd), .string (bs pp)]) false).run Tryz.prog w9.drew = .ok (wasV (wasI l (n, dd, pp))) w9.drew := hrun
              obtain ⟨wv, hwv⟩ := name_it (wasV (wasI l (n, dd, pp)))
              rw [hwv.out] at hrun
              clear hown hod hvw hsay
              go_upto_region 21 with fail
              go_region_held3 (fun W => W.cell? ⟨jb, 1, none⟩ = some (.map (some mb)) ∧ W.cell? ⟨kb, 0, none⟩ = some (.string (bs n)) ∧ W.cell? ⟨kb, 1, none⟩ = some (.string (bs dd)) ∧ W.cell? ⟨kb, 2, none⟩ = some (.string (bs pp))) (go_keep) (fail)
              have bd := (Below.refl w9.heap.size w9).drew
              have KX10 := Lib.hid (kx9.out.next bd)
              have KB10 := Lib.hid (KB9.out.next bd)
              have J10 := Lib.hid (J9.out.next_ bd)
              have D10 := Lib.hid (D9.out.trans (bd.mono D9.out.size))
              clear bd kx9 KB9 KC9 J9 D9 g0 g1 g2 j1 hrun
              generalize w9.drew = w10 at KX10 KB10 J10 D10 ⊢
              obtain ⟨WB, hWB⟩ := name_it (wasI l (n, dd, pp)).isSome
              go_upto_region 22 with fail
              go_cut [114] (fun s wx => s = .bool WB ∧ wx = w10)
              case first =>
                cases hwas : wasI l (n, dd, pp) with
                | none =>
                  rw [hwas] at hwv hWB
                  have hwn : wv = .pointer none := hwv.out.symm
                  have hwb : WB = false := hWB.out.symm
                  subst hwn hwb
                  clear hwv hwas
                  go_wp2_with fail
                  go_meet
                  case rel => exact ⟨rfl, rfl⟩
                | some y =>
                  rw [hwas] at hwv hWB
                  have hwn : wv = .pointer (some ⟨y.blk, 0, none⟩) := hwv.out.symm
                  have hwb : WB = true := hWB.out.symm
                  subst hwn hwb
                  clear hwv hwas
                  go_wp2_with fail
                  go_meet
                  case rel => exact ⟨rfl, rfl⟩
              case rest =>
                obtain ⟨rfl, hwc⟩ := hcut
                rw [hwc]
                clear hwc
                go_upto_if 114 with fail
                go_cut [] (fun wx => ∃ num nx : Nat, Hid (CellsAt wx xb [.string (bs n), .string (bs v), .string (bs pp), .string (bs d), .int .i64 ma, .bool hm, .int .i64 ex, .bool he, .bool sc, .bool ht, .int .i64 sm, .string (bs n), .string (bs dd), .string (bs pp), .bool (!dE), .int .i64 till, .bool ends, .int .i64 num]) ∧ Hid (JarAt wx jb mb most nx l) ∧ Hid (Keeps (fun i => i = xb ∨ i = jb) w10 wx) ∧ Hid (match wasI l (n, dd, pp) with | none => num = next ∧ nx = next + 1 | some y => num = y.num ∧ nx = next))
                case first =>
                  cases hwas : wasI l (n, dd, pp) with
                  | none =>
                    rw [hwas] at hwv hWB
                    have hwn : wv = .pointer none := hwv.out.symm
                    have hwb : WB = false := hWB.out.symm
                    subst hwn hwb
                    have j2 := J10.out.jar.at 2 _ rfl
                    have y2 := J10.out.jar.free 2
                    have JB := Lib.hid (J10.out.bump)
                    have KXB := Lib.hid (KX10.out.keeps (Keeps.set (S := fun i => i = jb) rfl 2 w10 (.int .i64 ((next + 1 : Nat) : Int))) (fun e => NX.out.2.1 e.symm))
                    have PB : Hid (Keeps (fun i => i = xb ∨ i = jb) w10 (w10.setCell ⟨jb, 2, none⟩ (.int .i64 ((next + 1 : Nat) : Int)))) := Keeps.set (Or.inr rfl) 2 w10 _
                    have hcast : ((next + 1 : Nat) : Int) = (next : Int) + 1 := rfl
                    rw [hcast] at JB KXB PB
                    clear hwv hcast
                    go_wp2_with fail
                    all_goals (try (exfalso; omega))
                    go_meet
                    case rel => exact ⟨next, next + 1, KXB, JB, PB, by unfold Hid; rw [hwas]; exact ⟨rfl, rfl⟩⟩
                  | some y =>
                    rw [hwas] at hwv hWB
                    have hwn : wv = .pointer (some ⟨y.blk, 0, none⟩) := hwv.out.symm
                    have hwb : WB = true := hWB.out.symm
                    subst hwn hwb
                    have hym := (was_mem hwas).1
                    have y17 : w10.cell? ⟨y.blk, 17, none⟩ = some (.int .i64 y.num) := (J10.out.its y hym).at 17 _ rfl
                    have z17 := KX10.out.at 17 _ rfl
                    have f17 := KX10.out.free 17
                    have KXS := Lib.hid (KX10.out.set 17 (by simp) (.int .i64 y.num))
                    have PB : Hid (Keeps (fun i => i = xb) w10 (w10.setCell ⟨xb, 17, none⟩ (.int .i64 y.num))) := Keeps.set (S := fun i => i = xb) rfl 17 w10 _
                    have JS := Lib.hid (J10.out.keeps PB.out (fun e => NX.out.2.1 e) (fun e => NX.out.2.2 e) (fun x hx => NX.out.1 x hx))
                    have PC := Lib.hid (PB.out.mono (T := fun i => i = xb ∨ i = jb) (fun i _ h => Or.inl h))
                    clear hwv hym
                    go_wp2_with fail
                    go_meet
                    case rel => exact ⟨y.num, next, KXS, JS, PC, by unfold Hid; rw [hwas]; exact ⟨rfl, rfl⟩⟩
                case rest =>
                  obtain ⟨num, nx, kx11, j11, kp11, hnum⟩ := hcut
                  have KB11 := Lib.hid (KB10.out.keeps kp11.out (by have := GX.out; have := NB.out.1; intro h; rcases h with h | h; omega; exact this h.symm))
                  have P11 : Hid (Keeps (fun i => i = jb ∨ i = mb) w wc) := by
                    have q := Keeps.of (S := fun i => i = jb ∨ i = mb) (D10.out) (Nat.le_refl _)
                    exact q.then kp11.out (fun i hi h => by rcases h with h | h; have := GX.out; have := G3.out; omega; exact Or.inl h)
                  clear KX10 KB10 J10 kp11 D10
                  generalize wc = w11 at kx11 j11 KB11 P11 ⊢
                  obtain ⟨x, hx⟩ : ∃ x : It, x = ⟨xb, kpOf ⟨n, v, p, d, ma, hm, ex, he, sc, ht, sm⟩ (L host) (L path) now, num⟩ := ⟨_, rfl⟩
                  have hxb : x.blk = xb := by rw [hx]
                  have hxn : x.num = num := by rw [hx]
                  have hxk : x.k = kpOf ⟨n, v, p, d, ma, hm, ex, he, sc, ht, sm⟩ (L host) (L path) now := by rw [hx]
                  have hxkey : x.k.key = (n, dd, pp) := by
                    rw [hxk, kpOf_key]
                    unfold keyOfC
                    simp only [hdd.out, hpp.out]
                  have hck : cellsK x = [.string (bs n), .string (bs v), .string (bs pp), .string (bs d), .int .i64 ma, .bool hm, .int .i64 ex, .bool he, .bool sc, .bool ht, .int .i64 sm, .string (bs n), .string (bs dd), .string (bs pp), .bool (!dE), .int .i64 till, .bool ends, .int .i64 num] := by
                    rw [hx]
                    unfold cellsK kpOf cellsS
                    have q1 : decide (d ≠ []) = !dE := by rw [← hdE.out, decide_not]
                    simp only [hdd.out, hpp.out, htill.out, hends.out, q1]
                    rfl
                  have HXC : Hid (CellsAt w11 x.blk (cellsK x)) := by rw [hck, hxb]; exact kx11
                  have HXF : Hid (FitC x.k.c ∧ FitK x.k.key ∧ -9223372036854775808 ≤ x.k.till ∧ x.k.till ≤ 9223372036854775807) := by
                    have q2 : x.k.till = till := by rw [hxk]; exact htill.out
                    refine ⟨by rw [hxk]; exact hf, by rw [hxkey]; exact HFK.out, ?_, ?_⟩
                    · rw [q2]; exact ftill.out.1
                    · rw [q2]; exact ftill.out.2
                  have bd := (Below.refl w11.heap.size w11).drew
                  have j11d := j11.out.next_ bd
                  have hxd := HXC.out.next bd
                  obtain ⟨D, hown, hsay⟩ := j11.out.map
                  have hod := hown.drew
                  have hl3 := j11.out.most
                  obtain ⟨w12, hrun, own12, g12⟩ := hod.update lawK undM (by unfold maxLen; omega) (keyOf_K (n, dd, pp) HFK.out) (RJ_ptr xb)
                  have KG := keeps_grown (S := fun i => i = mb) g12 rfl
                  have J12 : Hid (JarAt w12 jb mb most nx (putI l x)) := by
                    have hnb : ∀ y ∈ l, y.blk ≠ x.blk := fun y hy => by rw [hxb]; exact NX.out.1 y hy
                    rw [← hxb, ← hxkey] at own12
                    rw [← hxkey] at hnum
                    cases hwas : wasI l x.k.key with
                    | none =>
                      have hq := hnum.out
                      rw [hwas] at hq
                      obtain ⟨q1, q2⟩ := hq
                      subst q2
                      exact j11d.putNew hwas hxd (by rw [hxb]; exact fun e => NX.out.2.1 e.symm) (by rw [hxb]; exact fun e => NX.out.2.2 e.symm) hnb (by rw [hxn, q1]) (fun y hy => J.out.lim y hy) HXF.out hsay own12 KG
                    | some y =>
                      have hq := hnum.out
                      rw [hwas] at hq
                      obtain ⟨q1, q2⟩ := hq
                      exact j11d.putOld hwas hxd (by rw [hxb]; exact fun e => NX.out.2.1 e.symm) (by rw [hxb]; exact fun e => NX.out.2.2 e.symm) hnb (by rw [hxn, q1]) HXF.out hsay own12 KG
                  have P12 : Hid (Keeps (fun i => i = jb ∨ i = mb) w w12) := (P11.out.trans (Keeps.of bd (Nat.le_refl _))).trans (KG.mono (fun i _ h => Or.inr h))
                  have NXT : Hid (next ≤ nx ∧ nx ≤ next + 1) := by
                    have hq := hnum.out
                    cases hwas : wasI l (n, dd, pp) with
                    | none => rw [hwas] at hq; exact ⟨by omega, by omega⟩
                    | some y => rw [hwas] at hq; exact ⟨by omega, by omega⟩
                  have KB12 := (KB11.out.next bd).keeps KG (fun e => NB.out.2 e.symm)
                  have QF := Lib.hid (And.intro (J12.out.jar.at 1 _ rfl) (And.intro (KB12.at 0 _ rfl) (And.intro (KB12.at 1 _ rfl) (KB12.at 2 _ rfl))))
                  have LP := Lib.hid (putI_length l x)
                  have g0 := KB11.out.at 0 _ rfl
                  have g1 := KB11.out.at 1 _ rfl
                  have g2 := KB11.out.at 2 _ rfl
                  have j1 := j11.out.jar.at 1 _ rfl
                  have hrun : (Instr.mapUpdate 118 (.map (some mb)) (.agg #[.string (bs n), .string (bs dd), .string (bs pp)]) (.pointer (some ⟨xb, 0, none⟩))).run Tryz.prog w11.drew = .ok () w12 := hrun
                  have HR2 : Hid (R = trimJ most now ((putI l x).map It.k)) := by rw [HR.out, putI_k, hxk]; rfl
                  clear bd j11d hxd hown hod own12 g12 KG KB12 kx11 HXC HXF hck hsay j11 HR P11
                  obtain ⟨l1, hl1⟩ := name_it (putI l x)
                  rw [hl1.out] at J12 LP HR2
                  clear hl1 hxb hxn hxk hxkey hx
                  go_upto_region 25 with fail
                  go_region_held3 (fun W => W.cell? ⟨jb, 1, none⟩ = some (.map (some mb)) ∧ W.cell? ⟨kb, 0, none⟩ = some (.string (bs n)) ∧ W.cell? ⟨kb, 1, none⟩ = some (.string (bs dd)) ∧ W.cell? ⟨kb, 2, none⟩ = some (.string (bs pp)))
                    (first | go_keep | exact QF.out) (fail)
                  clear hrun g0 g1 g2 j1 QF
                  (try go_frame)
                  obtain ⟨D, hown, hsay⟩ := J12.out.map
                  have hod := hown.drew
                  have hlen := hod.len undM 3
                  rw [hsay.size] at hlen
                  have hlen : (Builtin.len_ #[118] 3 #[.map (some mb)]).run Tryz.prog w12.drew = .ok (.int .i64 l1.length) w12.drew := hlen
                  have j0 := J12.out.jar.at 0 _ rfl
                  have j1 := J12.out.jar.at 1 _ rfl
                  clear hown hod hsay
                  go_upto_region 26 with fail
                  go_region_held3 (fun W => W.cell? ⟨jb, 0, none⟩ = some (.int .i64 most) ∧ W.cell? ⟨jb, 1, none⟩ = some (.map (some mb)) ∧ (Builtin.len_ #[118] 3 #[.map (some mb)]).run Tryz.prog W = .ok (.int .i64 l1.length) W) (go_keep) (fail)
                  have bd := (Below.refl w12.heap.size w12).drew
                  have J13 := Lib.hid (J12.out.next_ bd)
                  have P13 := Lib.hid (P12.out.trans (Keeps.of (S := fun i => i = jb ∨ i = mb) bd (Nat.le_refl _)))
                  clear bd J12 P12 hlen j0 j1
                  generalize w12.drew = w13 at J13 P13 ⊢
                  (try go_frame)
                  obtain ⟨l2, hl2⟩ := name_it (if most < l1.length then l1.filter fun y => !y.k.over now else l1)
                  have LP2 : l1.length ≤ l.length + 1 := LP.out
                  have hml := J13.out.most
                  have hnx := NXT.out
                  go_upto_if 144 with fail
                  go_cut [] (fun wx => Hid (JarAt wx jb mb most nx l2) ∧ Hid (Keeps (fun i => i = mb) w13 wx))
                  case first =>
                    have SWP := Lib.hid (sweep_any w13 jb mb most nx l1 now J13.out (by omega) (by omega))
                    unfold ptrV at SWP
                    by_cases hgt : most < l1.length
                    · have h2 : Hid (l2 = l1.filter fun y => !y.k.over now) := by rw [← hl2.out, if_pos hgt]; rfl
                      go_wp2_with (go_at_call 69; refine SWP.out.mono ?_; rintro e w14 ⟨rfl, hjs, hks⟩)
                      all_goals (try (exfalso; omega))
                      go_meet
                      case rel => exact ⟨by rw [h2.out]; exact hjs, hks⟩
                    · have h2 : Hid (l2 = l1) := by rw [← hl2.out, if_neg hgt]; rfl
                      go_wp2_with (go_at_call 69; refine SWP.out.mono ?_; rintro e w14 ⟨rfl, hjs, hks⟩)
                      all_goals (try (exfalso; omega))
                      go_meet
                      case rel => exact ⟨by rw [h2.out]; exact J13, Keeps.refl _ _⟩
                  case rest =>
                    obtain ⟨j14, kp14⟩ := hcut
                    have P14 := Lib.hid (P13.out.trans (kp14.out.mono (T := fun i => i = jb ∨ i = mb) (fun i _ h => Or.inr h)))
                    have HR3 : Hid (R = (if most < l2.length then l2.drop (l2.length - most) else l2).map It.k) := by rw [HR2.out, ← trimI_k, ← hl2.out]; rfl
                    have L2 : l2.length ≤ l1.length := by
                      rw [← hl2.out]
                      split
                      · exact List.length_filter_le _ _
                      · exact Nat.le_refl _
                    clear J13 P13 kp14 HR2 hl2
                    generalize wc = w14 at j14 P14 ⊢
                    go_wp2_with fail
                    go_loopw [] (fun wr => ∃ k : Nat, k ≤ l2.length - most ∧ Hid (JarAt wr jb mb most nx (l2.drop k)) ∧ Hid (Keeps (fun i => i = jb ∨ i = mb) w wr)) (fun wr => mapLen wr mb)
                    case atStart => exact ⟨0, Nat.zero_le _, by rw [List.drop_zero]; exact j14, P14⟩
                    clear j14 P14
                    case round =>
                      obtain ⟨k, hk, hJr, hPr⟩ := hrel
                      obtain ⟨wq, hwq⟩ : ∃ wq, wq = wr := ⟨wr, rfl⟩
                      subst hwq
                      obtain ⟨D, hown, hsay⟩ := hJr.out.map
                      have hml1 := mapLen_of hown
                      rw [hsay.size] at hml1
                      have hod := hown.drew
                      have hlen := hod.len undM 3
                      rw [hsay.size] at hlen
                      have hlen : (Builtin.len_ #[118] 3 #[.map (some mb)]).run Tryz.prog wq.drew = .ok (.int .i64 (l2.drop k).length) wq.drew := hlen
                      have j0 := hJr.out.jar.at 0 _ rfl
                      have j1 := hJr.out.jar.at 1 _ rfl
                      have ldl : (l2.drop k).length = l2.length - k := List.length_drop
                      clear hown hod hsay
                      by_cases hgt : most < (l2.drop k).length
                      · have hk2 : k < l2.length := by omega
                        have hcons : l2.drop k = l2[k] :: l2.drop (k + 1) := List.drop_eq_getElem_cons hk2
                        obtain ⟨m, hm'⟩ : ∃ m, l2.length - k = m + 1 := ⟨l2.length - k - 1, by omega⟩
                        have hlm : ((l2.drop k).map It.blk).length = m + 1 := by rw [List.length_map, ldl, hm']
                        have hx0 : l2[k] ∈ l2.drop k := by rw [hcons]; exact List.mem_cons_self ..
                        have hd1 : drop1 l2[k] (l2.drop k) = l2.drop (k + 1) := by
                          have hkeys := hJr.out.keys
                          rw [hcons] at hkeys ⊢
                          rw [List.map_cons, List.nodup_cons] at hkeys
                          unfold drop1
                          rw [List.filter_cons, if_neg (by simp)]
                          refine List.filter_eq_self.2 fun y hy => ?_
                          have : ¬ y.k.key = l2[k].k.key := fun e => hkeys.1 (e ▸ List.mem_map.2 ⟨y, hy, rfl⟩)
                          simp [this]
                        have hb0 : ((l2.drop k).map It.blk)[0]'(by omega) = l2[k].blk := by
                          simp only [hcons, List.map_cons, List.getElem_cons_zero]
                        have bd := (Below.refl wq.heap.size wq).drew
                        have J1 := Lib.hid ((hJr.out.next_ bd).next_ ((Below.refl _ _).drew))
                        have ORD := Lib.hid (order_any wq.drew.drew jb mb most nx (l2.drop k) J1.out (by omega) (by omega))
                        unfold ptrV at ORD
                        have PB := Lib.hid (hPr.out.trans ((Keeps.of (S := fun i => i = jb ∨ i = mb) bd (Nat.le_refl _)).trans (Keeps.of (S := fun i => i = jb ∨ i = mb) ((Below.refl wq.drew.heap.size wq.drew).drew) (Nat.le_refl _))))
                        have GMB : Hid (mb < w.heap.size) := by obtain ⟨D, h, _⟩ := J.out.map; exact h.lt
                        have GPW : Hid (w.heap.size ≤ wq.heap.size) := hPr.out.size
                        have HM := Lib.hid hx0
                        have HD1 := Lib.hid hd1
                        have HB0 := Lib.hid hb0
                        obtain ⟨x0, hx0n⟩ := name_it l2[k]
                        rw [hx0n.out] at HM HD1 HB0
                        have HL1 := Lib.hid hlm
                        clear hcons hx0 hd1 hb0 bd hx0n hJr hPr
                        go_upto_region 28 with fail
                        go_region_held3 (fun W => W.cell? ⟨jb, 0, none⟩ = some (.int .i64 most) ∧ W.cell? ⟨jb, 1, none⟩ = some (.map (some mb)) ∧ (Builtin.len_ #[118] 3 #[.map (some mb)]).run Tryz.prog W = .ok (.int .i64 (l2.drop k).length) W) (go_keep) (fail)
                        (try go_frame)
                        clear hlen
                        go_upto_region 29 with fail
                        all_goals (try (exfalso; omega))
                        have q1 : wq.drew.cell? ⟨jb, 1, none⟩ = some (.map (some mb)) := j1
                        have q2 : wq.drew.drew.cell? ⟨jb, 1, none⟩ = some (.map (some mb)) := j1
                        go_region_law
                          (first | (go_simp; go_at_call 70; refine ORD.out.mono ?_; rintro e wo ⟨⟨v, rfl, sp, cap, rfl, hsp⟩, hbo⟩; rw [HL1.out]; have Jo := Lib.hid (J1.out.next_ hbo); obtain ⟨g, rfl, hg1, hg2, hg3⟩ := ptr_cons hsp (by rw [HL1.out]; omega); have jo1 := Jo.out.jar.at 1 _ rfl; have cg : wo.cell? ⟨g, 0, none⟩ = some (.pointer (some ⟨x0.blk, 0, none⟩)) := (hg3 0 (by rw [HL1.out]; omega)).trans (by rw [HB0.out]; rfl); have o11 : wo.cell? ⟨x0.blk, 11, none⟩ = some (.string (bs x0.k.c.name)) := (Jo.out.its x0 HM.out).at 11 _ rfl; have o12 : wo.cell? ⟨x0.blk, 12, none⟩ = some (.string (bs x0.k.dom)) := (Jo.out.its x0 HM.out).at 12 _ rfl; have o13 : wo.cell? ⟨x0.blk, 13, none⟩ = some (.string (bs x0.k.path)) := (Jo.out.its x0 HM.out).at 13 _ rfl; obtain ⟨Do, owno, sayo⟩ := Jo.out.map; obtain ⟨wd, hrund, ownd, turnd⟩ := owno.drop lawK undM (keyOf_K _ (Jo.out.fit x0 HM.out).2.1) 0; have KD := Lib.hid (keeps_grown (S := fun i => i = mb) turnd.grown rfl); have JD := Lib.hid (Jo.out.drop HM.out sayo ownd KD.out); have PD := Lib.hid ((PB.out.trans (Keeps.of hbo (Nat.le_refl _))).trans (KD.out.mono (T := fun i => i = jb ∨ i = mb) (fun i _ h => Or.inr h))); have hrund : (Builtin.delete_ #[118, 115] 0 #[.map (some mb), .agg #[.string (bs x0.k.c.name), .string (bs x0.k.dom), .string (bs x0.k.path)]]).run Tryz.prog wo = .ok (.tuple #[]) wd := hrund; clear hg1 hg2 hg3 ownd turnd owno sayo hsp hbo))
                        all_goals
                          rw [HD1.out] at JD
                          have hmd : mapLen wd mb = l2.length - (k + 1) := by
                            obtain ⟨D', own', say'⟩ := JD.out.map
                            rw [mapLen_of own', say'.size, List.length_drop]
                          go_wp2_with fail
                          go_roundw
                          case rel => exact ⟨k + 1, by omega, JD, PD⟩
                          case measure => rw [hmd, hml1]; omega
                      · have HRF : Hid (R = (l2.drop k).map It.k) := by
                          rw [HR3.out]
                          by_cases h : most < l2.length
                          · have : k = l2.length - most := by omega
                            rw [if_pos h, this]; rfl
                          · have : k = 0 := by omega
                            rw [if_neg h, this, List.drop_zero]; rfl
                        have bd := (Below.refl wq.heap.size wq).drew
                        have JF := Lib.hid (hJr.out.next_ bd)
                        have PF := Lib.hid (hPr.out.trans (Keeps.of (S := fun i => i = jb ∨ i = mb) bd (Nat.le_refl _)))
                        clear bd hJr hPr
                        go_upto_region 28 with fail
                        go_region_held3 (fun W => W.cell? ⟨jb, 0, none⟩ = some (.int .i64 most) ∧ W.cell? ⟨jb, 1, none⟩ = some (.map (some mb)) ∧ (Builtin.len_ #[118] 3 #[.map (some mb)]).run Tryz.prog W = .ok (.int .i64 (l2.drop k).length) W) (go_keep) (fail)
                        (try go_frame)
                        clear hlen
                        go_wp2_with fail
                        all_goals (try (exfalso; omega))
                        go_ret
                        exact ⟨rfl, PF.out, l2.drop k, nx, JF.out, HRF.out.symm, hnx.1, hnx.2⟩
end Go.Proofs.YtkenianfpfamcaaGreatDoor
