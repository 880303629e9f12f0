/- The stable sort whole: blocks of twenty by insertion, then merged. -/
import Derived.Test.YtkenianfpfamcaaGreatDoorSymBJ
import Derived.Test.YtkenianfpfamcaaGreatDoorSa
import Derived.Test.YtkenianfpfamcaaGreatDoorSortLay
namespace Go.Proofs.YtkenianfpfamcaaGreatDoor
open Go Go.RowKit Go.Sort Go.Shelf Go.Lib
set_option maxHeartbeats 16000000
variable {α : Type} [Inhabited α]

omit [Inhabited α] in
theorem ltOf_key (kk : α → Nat) (cf : α → α → Int) (hcf : ∀ x y, cf x y = (kk y : Int) - kk x) : ltOf cf = ltV kk := by
  funext x y
  show decide (cf x y < 0) = decide (kk y < kk x)
  rw [hcf, decide_eq_decide]; omega
set_option maxRecDepth 100000 in
theorem stableCmp_s (enc : α → Value) (kk : α → Nat) (cf : α → α → Int) (hcf : ∀ x y, cf x y = (kk y : Int) - kk x) (g : Nat) (cb : Array Value) (blk off cap sz : Nat) (d0 : Array α) (w0 : World)
    (eg : ∀ args w, (callFunc g args).run Tryz.prog w = .ok (.enter g args) w) (hcmp : CmpLays1 Tryz.prog g cb enc cf blk off d0.size w0) (R : Row1 enc w0 blk off d0) (hs : d0.size = sz) (hsz : sz ≤ 1099511627776) (l : List α) (w : World) (hl : l.length = sz) (S : SW enc w0 blk off l.toArray w) :
    Calls Tryz.prog 124 #[.slice (some ⟨blk, off, none⟩) sz cap, .int .i64 sz, .func (.func g) #[] cb] w fun e w' => e = .returned (.tuple #[]) ∧ SW enc w0 blk off (insAll (ltV kk) l).toArray w' := by
  have HINS : Hid (∀ (a b : Nat) (dk : Array α) (wx : World), dk.size = sz → SW enc w0 blk off dk wx → a ≤ b → b ≤ sz → Calls Tryz.prog 162 #[.slice (some ⟨blk, off, none⟩) sz cap, .int .i64 a, .int .i64 b, .func (.func g) #[] cb] wx fun e w' => e = .returned (.tuple #[]) ∧ SW enc w0 blk off (Sort.insertionSort (ltV kk) dk a b) w') := by
    intro a b dk wx hk Sx hab hb
    have h := Any.insertionSortCmpFunc_s Tryz.layIns enc cf g cb blk off cap a b d0 dk w0 wx eg hcmp R (hs.trans hk.symm) Sx hab (by omega) (by omega)
    rw [ltOf_key kk cf hcf, hk] at h
    exact h
  have HSYM := Lib.hid (symMerge_s enc kk cf hcf g cb blk off cap sz d0 w0 eg hcmp R hs (by omega))
  have HL := Lib.hid hl
  have S0 : Aside (SW enc w0 blk off l.toArray w) := S
  clear S hcmp R hcf eg hs hl
  go_enter Tryz.func124, Tryz.ntmps124
  go_wp2_with fail
  go_loopg [7, 8] sz (fun kx sa sb wr => ∃ (a b : Nat) (dk : Array α), sa = .int .i64 a ∧ sb = .int .i64 b ∧ b ≤ a + 20 ∧ a + 20 ≤ b ∧ a ≤ sz ∧ sz - a ≤ kx ∧ Hid (Blk1 kk l a dk) ∧ Aside (SW enc w0 blk off dk wr))
  case atStart => exact ⟨0, 20, l.toArray, rfl, rfl, by omega, by omega, Nat.zero_le _, by omega, Blk1.start kk l, S0⟩
  case round =>
    clear S0
    obtain ⟨a, b, dk, rfl, rfl, hb1, hb2, ha, hkx, HB, S1⟩ := hrel
    by_cases hlt : b ≤ sz
    · have hltz : (b : Int) ≤ (sz : Int) := by omega
      have hc := Lib.hid (HINS.out a b dk wr (HB.out.size.trans HL.out) S1.out (by omega) hlt)
      have HB2 : Hid (Blk1 kk l b (Sort.insertionSort (ltV kk) dk a b)) := by
        have e : b = a + 20 := by omega
        unfold Hid
        rw [e]
        exact HB.out.step kk (by rw [HL.out]; omega)
      clear HB
      go_wp2_with fail
      refine hc.out.mono ?_; rintro e w2 ⟨rfl, S2⟩
      have S3 : Aside _ := S2
      clear S2 hc S1
      go_wp2_with fail
      go_roundg (sz - b)
      case measure => omega
      case rel => exact ⟨b, b + 20, _, rfl, by go_num, Nat.le_refl _, Nat.le_refl _, hlt, Nat.le_refl _, HB2, S3⟩
    · have hltz : ¬ (b : Int) ≤ (sz : Int) := by omega
      have hc := Lib.hid (HINS.out a sz dk wr (HB.out.size.trans HL.out) S1.out ha (Nat.le_refl _))
      have hfin := HB.out.done kk (by rw [HL.out]; omega)
      rw [HL.out] at hfin
      rw [hfin] at hc
      clear HB hfin
      go_wp2_with fail
      refine hc.out.mono ?_; rintro e w2 ⟨rfl, S2⟩
      have S3 : Aside _ := S2
      clear S2 hc S1 HINS hb1 hb2 ha hlt hltz hkx
      go_wp2_with fail
      go_loopg [6, 7, 8, 9] sz (fun kx s6 _ _ _ wr => ∃ s : Nat, s6 = .int .i64 s ∧ 20 ≤ s ∧ s ≤ 2 * sz + 20 ∧ sz - s ≤ kx ∧ Aside (SW enc w0 blk off (srtB kk s l).toArray wr))
      case atStart => exact ⟨20, rfl, Nat.le_refl _, by omega, by omega, S3⟩
      case round =>
        clear S3
        obtain ⟨s, rfl, hs1, hs2, hkx, S4⟩ := hrel
        obtain ⟨wo, hwo⟩ : ∃ wo, wo = wr := ⟨wr, rfl⟩
        subst hwo
        by_cases hss : s < sz
        · have hssz : (s : Int) < (sz : Int) := by omega
          obtain ⟨gm, hgm⟩ : ∃ gm, gm = gk := ⟨gk, rfl⟩
          subst hgm
          go_wp2_with fail
          go_loopg [7, 8] sz (fun kx sa sb wr => ∃ (a b : Nat) (dk : Array α), sa = .int .i64 a ∧ sb = .int .i64 b ∧ b ≤ a + 2 * s ∧ a + 2 * s ≤ b ∧ a ≤ sz ∧ sz - a ≤ kx ∧ Hid (Blk2 kk s l a dk) ∧ Aside (SW enc w0 blk off dk wr))
          case atStart => exact ⟨0, 2 * s, (srtB kk s l).toArray, rfl, by go_num, by omega, by omega, Nat.zero_le _, by omega, Blk2.start kk s l, S4⟩
          case round =>
            clear S4
            obtain ⟨a, b, dk, rfl, rfl, hb1, hb2, ha, hkx2, HB, S1⟩ := hrel
            have hdz := HB.out.size kk (by omega)
            rw [HL.out] at hdz
            have HDZ := Lib.hid hdz
            clear hdz
            obtain ⟨m, hm1, hm2⟩ : ∃ m, m ≤ a + s ∧ a + s ≤ m := ⟨a + s, Nat.le_refl _, Nat.le_refl _⟩
            have zm : (a : Int) + (s : Int) = (m : Int) := by omega
            by_cases hlt : b ≤ sz
            · have hltz : (b : Int) ≤ (sz : Int) := by omega
              obtain ⟨A, X, Y, B, hd, hA, hX, hY, hSX, hSY, hB2⟩ := HB.out.step kk (by omega) (by rw [HL.out]; omega)
              have hc := Lib.hid (HSYM.out (X.length + Y.length) A X Y B dk a m b wr (Nat.le_refl _) (fun h => by rw [h] at hX; simp at hX; omega) (fun h => by rw [h] at hY; simp at hY; omega) hd HDZ.out hA (by omega) (by omega) S1.out hSX hSY)
              have HB2 : Hid (Blk2 kk s l b (A ++ (mrg kk X Y ++ B)).toArray) := by
                have e : b = a + 2 * s := by omega
                unfold Hid
                rw [e]; exact hB2
              clear HB hd hA hX hY hSX hSY hB2
              go_wp2_with fail
              refine hc.out.mono ?_; rintro e w2 ⟨rfl, S2⟩
              have S3 : Aside _ := S2
              clear S2 hc S1
              go_wp2_with fail
              go_roundg (sz - b)
              case measure => omega
              case rel => exact ⟨b, b + 2 * s, _, rfl, by go_num, Nat.le_refl _, Nat.le_refl _, hlt, Nat.le_refl _, HB2, S3⟩
            · have hltz : ¬ (b : Int) ≤ (sz : Int) := by omega
              by_cases hmz : m < sz
              · have hmzz : (m : Int) < (sz : Int) := by omega
                obtain ⟨A, X, Y, B, hd, hA, hX, hY, hSX, hSY, hB2⟩ := HB.out.last kk (by omega) (by rw [HL.out]; omega) (by rw [HL.out]; omega)
                rw [HL.out] at hY
                have hc := Lib.hid (HSYM.out (X.length + Y.length) A X Y B dk a m sz wr (Nat.le_refl _) (fun h => by rw [h] at hX; simp at hX; omega) (fun h => by rw [h] at hY; simp at hY; omega) hd HDZ.out hA (by omega) (by omega) S1.out hSX hSY)
                rw [hB2] at hc
                clear HB hd hA hX hY hSX hSY hB2
                go_wp2_with fail
                refine hc.out.mono ?_; rintro e w2 ⟨rfl, S2⟩
                have S3 : Aside _ := S2
                clear S2 hc S1
                go_wp2_with fail
                go_roundg (sz - s * 2)
                case measure => omega
                case rel => exact ⟨s * 2, by go_num, by omega, by omega, Nat.le_refl _, S3⟩
              · have hmzz : ¬ (m : Int) < (sz : Int) := by omega
                have e := HB.out.done kk (by omega) (by rw [HL.out]; omega)
                have S3 : Aside (SW enc w0 blk off (srtB kk (s * 2) l).toArray wr) := by rw [← e]; exact S1
                clear HB e S1
                go_wp2_with fail
                go_roundg (sz - s * 2)
                case measure => omega
                case rel => exact ⟨s * 2, by go_num, by omega, by omega, Nat.le_refl _, S3⟩
        · have hssz : ¬ (s : Int) < (sz : Int) := by omega
          go_wp2_with fail
          refine bodyPost_end (results_none rfl _ _ _) rfl ?_
          refine ⟨rfl, ?_⟩
          have e := srtB_le kk (s := s) (l := l) (by omega) (by rw [HL.out]; omega)
          rw [← e]; exact S4.out
end Go.Proofs.YtkenianfpfamcaaGreatDoor
