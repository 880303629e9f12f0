/- Contract of the program's Pieces: a body in parts read. -/
import Derived.Test.YtnodboggemggmaaGreatDoorPcB
namespace Go.Proofs.YtnodboggemggmaaGreatDoor
open Go Go.RowKit
set_option maxHeartbeats 4000000

def atOf (w : World) (g : Nat) : Nat := match w.cell? ⟨g, 1, none⟩ with | some v => (intOf v).toNat | none => 0
theorem partM_le {N at_ : Nat} {rest : List UInt8} {p : Pc} {u : Nat} (h : partM N at_ rest = .go p u) : u ≤ rest.length := by
  unfold partM at h
  split at h
  · cases h
  · cases h
  · rename_i k h1
    split at h
    · cases h
    · cases h
    · rename_i t h2
      split at h
      · cases h
      · rename_i hb
        split at h
        · rename_i hst
          split at h
          · cases h
          · rename_i hlt
            injection h with _ hu
            subst hu
            have hx := of_decide_eq_true hst
            have hx2 := congrArg List.length hx
            simp only [List.length_take, List.length_drop, List.length_cons, List.length_nil] at hx2 hlt
            omega
        · split at h <;> cases h
theorem pcRow_slice {w : World} {b e : Nat} {v : Value} {l : List Pc} (h : PcRow w b e v l) : ∃ a cap, v = .slice a l.length cap := by
  rcases h.2 with ⟨rfl, h0⟩ | ⟨g, cap, cur, rfl, hg, r⟩
  · exact ⟨none, 0, by rw [h0]⟩
  · exact ⟨_, cap, rfl⟩
theorem partM_stop {N at_ : Nat} {rest : List UInt8} {a e : Int} (h : partM N at_ rest = .stop a e) : e = 93 ∨ e = 94 := by
  unfold partM at h
  split at h
  · injection h with _ h; exact Or.inr h.symm
  · injection h with _ h; exact Or.inl h.symm
  · split at h
    · injection h with _ h; exact Or.inr h.symm
    · injection h with _ h; exact Or.inl h.symm
    · split at h
      · injection h with _ h; exact Or.inl h.symm
      · split at h
        · split at h
          · injection h with _ h; exact Or.inr h.symm
          · cases h
        · split at h
          · injection h with _ h; exact Or.inr h.symm
          · injection h with _ h; exact Or.inl h.symm
theorem own_low {w : World} {b b' : Nat} {e : TypeId} {size n : Nat} {v : Value} {xs : List Value} (h : w.ownsRow b e size v n xs) (hb : b' ≤ b) : w.ownsRow b' e size v n xs := by
  refine ⟨h.1, ?_⟩
  rcases h.2 with h | ⟨g, cap, cur, h1, h2, r⟩
  · exact Or.inl h
  · exact Or.inr ⟨g, cap, cur, h1, Nat.le_trans hb h2, r⟩
theorem Rd.new (w : World) (s : ByteArray) (n : Int) (v : Value) (T : TypeId) : Rd (w.alloc (.cells #[.string s, .int .i64 n, v] T)) w.heap.size s n v where
  c0 := World.cell?_alloc_mark w #[.string s, .int .i64 n, v] T (0, 0) 0
  c1 := World.cell?_alloc_mark w #[.string s, .int .i64 n, v] T (0, 0) 1
  c2 := World.cell?_alloc_mark w #[.string s, .int .i64 n, v] T (0, 0) 2
  f1 := by unfold World.frozen?; rw [show (w.alloc (.cells _ T)).heap[w.heap.size]? = _ from heap_alloc_new w _]; rfl
  f2 := by unfold World.frozen?; rw [show (w.alloc (.cells _ T)).heap[w.heap.size]? = _ from heap_alloc_new w _]; rfl
  lt := by show w.heap.size < (w.heap.push _).size; rw [Array.size_push]; omega
theorem Rd.atOf {w : World} {g : Nat} {s : ByteArray} {n : Nat} {v : Value} (h : Rd w g s n v) : atOf w g = n := by
  unfold Proofs.YtnodboggemggmaaGreatDoor.atOf; rw [h.c1]; show ((n : Int)).toNat = n; omega
def piecesM (mark body : List UInt8) : List Pc × Int × Int :=
  if isMk mark = true then pcsM ([13, 10, 45, 45] ++ mark) body.length (body.length + 1) 0 body [] else ([], 0, 92)
def pcPost (w0 w' : World) (e : Ending) (T : TypeId) (r : List Pc × Int × Int) : Prop := ∃ u, e = .returned (.tuple #[u, .int .i64 r.2.1, .int .i64 r.2.2]) ∧ PcRow w' w0.heap.size T u r.1 ∧ Below w0.heap.size w0 w'

set_option maxRecDepth 100000 in
theorem pieces_any (mk s : ByteArray) (w : World) (hE : EnvP w) (hs : s.size ≤ 400000000) (hmz : mk.size ≤ 1048576) :
    Calls Tryz.prog 10 #[.string mk, .string s] w fun e w' => pcPost w w' e 40 (piecesM (L mk) (L s)) := by
  have HE := Lib.hid hE; clear hE
  obtain ⟨RES, hRES⟩ := name_it (piecesM (L mk) (L s))
  rw [hRES.out]
  have hm : Hid (RES = piecesM (L mk) (L s)) := hRES.out.symm
  clear hRES
  unfold piecesM at hm
  have HB := Lib.hid (fun wx => isboundary_any mk wx (by unfold maxLen; omega))
  cases hk : isMk (L mk)
  · rw [hk] at hm HB
    rw [if_neg (by decide)] at hm
    clear hk
    go_enter Tryz.func10, Tryz.ntmps10
    go_wp2_with (go_at_call 24; refine (HB.out _).mono ?_; rintro e w' ⟨rfl, rfl⟩)
    go_ret3
    rw [hm.out]
    exact ⟨_, rfl, World.ownsRow_nil _ _ _ _, Below.refl _ _⟩
  · rw [hk] at hm HB
    rw [if_pos rfl] at hm
    clear hk
    have hov : ¬ 9223372036854775807 < 4 + mk.size := by omega
    have hov2 : ¬ (9223372036854775807 : Int) < 4 + (mk.size : Int) := by omega
    go_enter Tryz.func10, Tryz.ntmps10
    go_wp2_with (go_at_call 24; refine (HB.out _).mono ?_; rintro e w' ⟨rfl, rfl⟩)
    obtain ⟨g, hg⟩ : ∃ g : Nat, g = w.heap.size := ⟨_, rfl⟩
    have hm2 := hm.out
    rw [L_length] at hm2
    obtain ⟨E, hEE⟩ := name_it ([13, 10, 45, 45] ++ L mk)
    rw [hEE.out] at hm2
    obtain ⟨Eb, hEb⟩ := name_it ((⟨#[13, 10, 45, 45]⟩ : ByteArray) ++ mk)
    have hLE : Hid (L Eb = E) := by unfold Hid; rw [← hEb.out, ← hEE.out]; simp [L]
    have hEl : Hid (Eb.size = E.length) := by unfold Hid; rw [← hLE.out, L_length]
    have hEz : Eb.size ≤ 1048580 := by
      have h1 := congrArg List.length hEE.out
      have h2 := hEl.out
      rw [List.length_append, L_length] at h1
      simp only [List.length_cons, List.length_nil] at h1
      omega
    rw [← hg, hEb.out]
    have hRn := Lib.hid (Rd.new w s 0 (.slice none 0 0) 73)
    rw [← hg] at hRn
    have HM := Lib.hid hm2
    have HG := Lib.hid hg
    clear hm hm2
    clear hg
    go_loopw [9, 10, 11, 12, 13] (fun _ _ _ _ _ wr => ∃ (n : Nat) (v : Value) (acc : List Pc) (f : Nat), n ≤ s.size ∧ acc.length ≤ n ∧ s.size < f + n ∧ Hid (Rd wr g s n v) ∧ Hid (PcRow wr (g + 1) 40 v acc) ∧ Below w.heap.size w wr ∧ Hid (RES = pcsM E s.size f n ((L s).drop n) acc)) (fun _ _ _ _ _ wr => s.size + 1 - atOf wr g)
    case atStart => exact ⟨0, .slice none 0 0, [], s.size + 1, Nat.zero_le _, Nat.le_refl _, by omega, hRn, World.ownsRow_nil _ _ _ _, (Below.refl _ _).alloc (Nat.le_refl _) _, HM.out⟩
    case round =>
      obtain ⟨n, v, acc, f, hn, hal, hf, hR, hL, hbr, hres⟩ := hrel
      obtain ⟨f', rfl⟩ : ∃ f', f = f' + 1 := ⟨f - 1, by omega⟩
      obtain ⟨wq, hwq⟩ : ∃ wq, wq = wr := ⟨wr, rfl⟩
      subst hwq
      have HBR := Lib.hid hbr
      clear hbr
      obtain ⟨va, vc, hv⟩ := pcRow_slice hL.out
      subst hv
      have hgw : Hid (g + 1 ≤ wq.heap.size) := hR.out.lt
      have hgh : Hid (w.heap.size ≤ g) := Nat.le_of_eq HG.out.symm
      have x0 := hR.out.c0
      have x1 := hR.out.c1
      have x2 := hR.out.c2
      have y1 := hR.out.f1
      have HX : Hid (s.extract n s.size = bs ((L s).drop n)) := extract_tail s n
      obtain ⟨r, hr⟩ := name_it ((L s).drop n)
      rw [hr.out] at HX hres
      have hrl : Hid (r.length = s.size - n) := by rw [← hr.out]; unfold Hid; rw [List.length_drop, L_length]
      have hrz : Hid ((bs r).size = r.length) := size_bs r
      obtain ⟨B10, hB10⟩ : ∃ b, Eb ++ (⟨#[45, 45]⟩ : ByteArray) ++ (⟨#[13, 10]⟩ : ByteArray) = b := ⟨_, rfl⟩
      obtain ⟨B11, hB11⟩ : ∃ b, Eb ++ (⟨#[13, 10]⟩ : ByteArray) = b := ⟨_, rfl⟩
      obtain ⟨q, hq0⟩ : ∃ b, s.extract n s.size = b := ⟨_, rfl⟩
      have L10 : L B10 = E ++ [45, 45] ++ [13, 10] := by rw [← hB10, ← hLE.out]; simp [L]
      have B10z : B10.size = Eb.size + 4 := by rw [← hB10, ByteArray.size_append, ByteArray.size_append]; rfl
      have B11z : B11.size = Eb.size + 2 := by rw [← hB11, ByteArray.size_append]; rfl
      have HZ10 : Hid (B10.size = E.length + 4) := by rw [hEl.out] at B10z; exact B10z
      have HZ11 : Hid (B11.size = E.length + 2) := by rw [hEl.out] at B11z; exact B11z
      have B10y : B10.size ≤ 1048600 := by omega
      have B11y : B11.size ≤ 1048600 := by omega
      clear B10z B11z
      rw [hq0] at HX
      have L11 : L B11 = E ++ [13, 10] := by rw [← hB11, ← hLE.out]; simp [L]
      have hcmp : (q.toList == B10.toList) = decide (r = E ++ [45, 45] ++ [13, 10]) := by rw [HX.out, str_eq, L_bs, L10]
      have HP : Hid (∀ (a b : ByteArray) (wx : World), Calls Tryz.prog 30 #[.string a, .string b] wx fun e w' => e = .returned (.bool (startsB (L a) (L b))) ∧ wx = w') := by
        intro a b wx
        refine (Tryz.strings_HasPrefix a b wx).mono ?_
        rintro e w' ⟨rfl, rfl⟩
        refine ⟨?_, rfl⟩
        rw [← hp_starts]; rfl
      have P10 := Lib.hid (HP.out q B10)
      have P11 := Lib.hid (HP.out q B11)
      have Q11 := Lib.hid (HP.out B11 q)
      have Q10 := Lib.hid (HP.out B10 q)
      have LX : L q = r := by rw [HX.out, L_bs]
      rw [LX, L10] at P10 Q10
      rw [LX, L11] at P11 Q11
      rw [← hp_starts] at Q10 Q11
      clear LX
      have hres2 : Hid (RES = if acc ≠ [] ∧ r = E ++ [45, 45] ++ [13, 10] then (acc, 0, 0)
        else if acc ≠ [] ∧ startsB r (E ++ [45, 45] ++ [13, 10]) = true then (([] : List Pc), ((n + (E.length + 4) : Nat) : Int), (92 : Int))
        else if startsB r (E ++ [13, 10]) = true then
          match partM s.size (n + (E.length + 2)) (r.drop (E.length + 2)) with
          | .stop a e => ([], a, e)
          | .go p u => pcsM E s.size f' (n + (E.length + 2) + u) (r.drop (E.length + 2 + u)) (acc ++ [p])
        else if cutB r (E ++ [13, 10]) = true ∨ (acc ≠ [] ∧ cutB r (E ++ [45, 45] ++ [13, 10]) = true) then ([], s.size, 94)
        else ([], n, 92)) := hres.out
      clear hres HP L10 L11
      have b1 : (0 : Int) ≤ (n : Int) := by omega
      have b2 : (n : Int) ≤ (s.size : Int) := by omega
      by_cases hS : startsB r (E ++ [13, 10]) = true
      ·
        have hSl := congrArg List.length (show r.take (E ++ [13, 10]).length = E ++ [13, 10] from by unfold startsB at hS; exact of_decide_eq_true hS)
        rw [List.length_take, List.length_append] at hSl
        have hrl2 := hrl.out
        simp only [List.length_cons, List.length_nil] at hSl
        have HN : Hid (n + (E.length + 2) ≤ s.size) := by unfold Hid; omega
        have HI : Hid ((n : Int) + (B11.size : Int) = ((n + (E.length + 2) : Nat) : Int)) := by have := HZ11.out; unfold Hid; omega
        have R2 := Lib.hid (hR.out.setAt ((n + (E.length + 2) : Nat) : Int))
        have L2 : Hid (PcRow (wq.setCell ⟨g, 1, none⟩ (.int .i64 ((n + (E.length + 2) : Nat) : Int))) (g + 1) 40 (.slice va acc.length vc) acc) := own_setCell hL.out (p := ⟨g, 1, none⟩) (Nat.lt_succ_self _) _
        have D2 := Lib.hid (HBR.out.setCell (p := ⟨g, 1, none⟩) hgh.out (.int .i64 ((n + (E.length + 2) : Nat) : Int)))
        have hd1 : r.drop (E.length + 2) = (L s).drop (n + (E.length + 2)) := by rw [← hr.out, List.drop_drop]
        have hd2 : ∀ u, r.drop (E.length + 2 + u) = (L s).drop (n + (E.length + 2) + u) := by intro u; rw [← hr.out, List.drop_drop, Nat.add_assoc n]
        have hzp0 : ∀ (_ : ¬ (acc ≠ [] ∧ r = E ++ [45, 45] ++ [13, 10])) (_ : ¬ (acc ≠ [] ∧ startsB r (E ++ [45, 45] ++ [13, 10]) = true)), RES = match partM s.size (n + (E.length + 2)) ((L s).drop (n + (E.length + 2))) with | .stop a e => (([] : List Pc), a, e) | .go p u => pcsM E s.size f' (n + (E.length + 2) + u) ((L s).drop (n + (E.length + 2) + u)) (acc ++ [p]) := by
          intro h1 h2
          rw [hres2.out, if_neg h1, if_neg h2, if_pos hS, hd1]
          split
          · rfl
          · rename_i p u _
            rw [hd2 u]
        clear hSl hrl2 hd1 hd2
        by_cases hacc : acc = []
        · have hzp := Lib.hid (hzp0 (fun h => h.1 hacc) (fun h => h.1 hacc))
          have hl0 : acc.length = 0 := by rw [hacc]; rfl
          clear hres2 hzp0 hcmp hacc
          rw [hS] at P11
          go_wp2_with (go_at_call 30; first | (refine (P10.out _).mono ?_; rintro e w' ⟨rfl, rfl⟩) | (refine (P11.out _).mono ?_; rintro e w' ⟨rfl, rfl⟩) | (refine (Q11.out _).mono ?_; rintro e w' ⟨rfl, rfl⟩) | (refine (Q10.out _).mono ?_; rintro e w' ⟨rfl, rfl⟩))
          rw [HI.out]
          refine (part_any g s (n + (E.length + 2)) (.slice va acc.length vc) acc (g + 1) w _ HE.out D2.out hgh.out hs HN.out R2.out L2.out (Nat.lt_succ_self _) (by have := hgw.out; rw [World.size_setCell]; omega) (by omega)).mono ?_
          cases hp : partM s.size (n + (E.length + 2)) ((L s).drop (n + (E.length + 2))) with
          | stop a z =>
            rw [hp] at hzp
            have hz2 := partM_stop hp
            clear hp
            rintro e w3 ⟨rfl, hb⟩
            have hzz : ¬ z = 0 := by omega
            clear hz2
            go_wp2_with fail
            go_ret3
            rw [hzp.out]
            exact ⟨_, rfl, World.ownsRow_nil _ _ _ _, D2.out.trans (hb.mono hgh.out)⟩
          | go p u =>
            rw [hp] at hzp
            have hu := partM_le hp
            rw [List.length_drop, L_length] at hu
            have HU := Lib.hid hu
            clear hp hu
            rintro e w3 ⟨rfl, v', R3, L3, hb⟩
            have R4 := Lib.hid R3
            have L4 := Lib.hid L3
            have D4 := Lib.hid (D2.out.trans (hb.mono hgh.out))
            have HAT := Lib.hid hR.out.atOf
            clear R3 L3 hb x0 x1 x2 y1
            go_wp2_with fail
            go_roundw
            case rel =>
              have h1 := HN.out
              have h2 := HU.out
              exact ⟨n + (E.length + 2) + u, v', acc ++ [p], f', by omega, by rw [List.length_append, List.length_singleton]; omega, by omega, R4.out, L4.out, D4.out, hzp.out⟩
            case measure =>
              have h1 := HN.out
              have h2 := HU.out
              have h3 := R4.out.atOf
              have h4 := HAT.out
              omega
        · have hc : 0 < acc.length := List.length_pos_iff.2 hacc
          by_cases hq : r = E ++ [45, 45] ++ [13, 10]
          · have hz : Hid (RES = (acc, 0, 0)) := by unfold Hid; rw [hres2.out, if_pos ⟨hacc, hq⟩]
            rw [decide_eq_true hq] at hcmp
            clear hres2 hzp0 hq hS
            go_wp2_with (go_at_call 30; first | (refine (P10.out _).mono ?_; rintro e w' ⟨rfl, rfl⟩) | (refine (P11.out _).mono ?_; rintro e w' ⟨rfl, rfl⟩) | (refine (Q11.out _).mono ?_; rintro e w' ⟨rfl, rfl⟩) | (refine (Q10.out _).mono ?_; rintro e w' ⟨rfl, rfl⟩))
            go_ret3
            rw [hz.out]
            exact ⟨_, rfl, own_low hL.out (by have := hgh.out; omega), HBR.out⟩
          · rw [decide_eq_false hq] at hcmp
            cases hS0 : startsB r (E ++ [45, 45] ++ [13, 10])
            · rw [hS0] at P10
              have hzp := Lib.hid (hzp0 (fun h => hq h.2) (fun h => by rw [hS0] at h; exact absurd h.2 (by decide)))
              clear hres2 hzp0 hq hS0
              rw [hS] at P11
              go_wp2_with (go_at_call 30; first | (refine (P10.out _).mono ?_; rintro e w' ⟨rfl, rfl⟩) | (refine (P11.out _).mono ?_; rintro e w' ⟨rfl, rfl⟩) | (refine (Q11.out _).mono ?_; rintro e w' ⟨rfl, rfl⟩) | (refine (Q10.out _).mono ?_; rintro e w' ⟨rfl, rfl⟩))
              rw [HI.out]
              refine (part_any g s (n + (E.length + 2)) (.slice va acc.length vc) acc (g + 1) w _ HE.out D2.out hgh.out hs HN.out R2.out L2.out (Nat.lt_succ_self _) (by have := hgw.out; rw [World.size_setCell]; omega) (by omega)).mono ?_
              cases hp : partM s.size (n + (E.length + 2)) ((L s).drop (n + (E.length + 2))) with
              | stop a z =>
                rw [hp] at hzp
                have hz2 := partM_stop hp
                clear hp
                rintro e w3 ⟨rfl, hb⟩
                have hzz : ¬ z = 0 := by omega
                clear hz2
                go_wp2_with fail
                go_ret3
                rw [hzp.out]
                exact ⟨_, rfl, World.ownsRow_nil _ _ _ _, D2.out.trans (hb.mono hgh.out)⟩
              | go p u =>
                rw [hp] at hzp
                have hu := partM_le hp
                rw [List.length_drop, L_length] at hu
                have HU := Lib.hid hu
                clear hp hu
                rintro e w3 ⟨rfl, v', R3, L3, hb⟩
                have R4 := Lib.hid R3
                have L4 := Lib.hid L3
                have D4 := Lib.hid (D2.out.trans (hb.mono hgh.out))
                have HAT := Lib.hid hR.out.atOf
                clear R3 L3 hb x0 x1 x2 y1
                go_wp2_with fail
                go_roundw
                case rel =>
                  have h1 := HN.out
                  have h2 := HU.out
                  exact ⟨n + (E.length + 2) + u, v', acc ++ [p], f', by omega, by rw [List.length_append, List.length_singleton]; omega, by omega, R4.out, L4.out, D4.out, hzp.out⟩
                case measure =>
                  have h1 := HN.out
                  have h2 := HU.out
                  have h3 := R4.out.atOf
                  have h4 := HAT.out
                  omega
            · rw [hS0] at P10
              have hz : Hid (RES = (([] : List Pc), ((n + (E.length + 4) : Nat) : Int), (92 : Int))) := by
                unfold Hid; rw [hres2.out, if_neg (fun h => hq h.2), if_pos ⟨hacc, hS0⟩]
              clear hres2 hzp0 hq hS0 hS
              go_wp2_with (go_at_call 30; first | (refine (P10.out _).mono ?_; rintro e w' ⟨rfl, rfl⟩) | (refine (P11.out _).mono ?_; rintro e w' ⟨rfl, rfl⟩) | (refine (Q11.out _).mono ?_; rintro e w' ⟨rfl, rfl⟩) | (refine (Q10.out _).mono ?_; rintro e w' ⟨rfl, rfl⟩))
              go_quiet (fail)
              go_wp2_with fail
              go_ret3
              rw [hz.out]
              refine ⟨_, ?_, World.ownsRow_nil _ _ _ _, below_drewN HBR.out _⟩
              show Ending.returned _ = Ending.returned (.tuple #[_, .int .i64 ((n + (E.length + 4) : Nat) : Int), .int .i64 92])
              rw [show ((n + (E.length + 4) : Nat) : Int) = (n : Int) + (B10.size : Int) by have := HZ10.out; omega]
              rfl
      · have hSf : startsB r (E ++ [13, 10]) = false := by simpa using hS
        rw [hp_cut hSf] at Q11
        rw [hSf] at P11
        by_cases hacc : acc = []
        · subst hacc
          have hz : Hid (RES = if cutB r (E ++ [13, 10]) = true then (([] : List Pc), (s.size : Int), (94 : Int)) else ([], n, 92)) := by
            unfold Hid; rw [hres2.out, if_neg (fun h => h.1 rfl), if_neg (fun h => h.1 rfl), if_neg hS]
            simp
          clear hres2
          cases hC : cutB r (E ++ [13, 10])
          · rw [hC] at hz Q11
            rw [if_neg (by decide)] at hz
            clear hC hcmp
            go_wp2_with (go_at_call 30; first | (refine (P10.out _).mono ?_; rintro e w' ⟨rfl, rfl⟩) | (refine (P11.out _).mono ?_; rintro e w' ⟨rfl, rfl⟩) | (refine (Q11.out _).mono ?_; rintro e w' ⟨rfl, rfl⟩) | (refine (Q10.out _).mono ?_; rintro e w' ⟨rfl, rfl⟩))
            go_quiet (fail)
            go_wp2_with fail
            go_ret3
            rw [hz.out]
            exact ⟨_, rfl, World.ownsRow_nil _ _ _ _, below_drewN HBR.out _⟩
          · rw [hC] at hz Q11
            rw [if_pos rfl] at hz
            clear hC hcmp
            go_wp2_with (go_at_call 30; first | (refine (P10.out _).mono ?_; rintro e w' ⟨rfl, rfl⟩) | (refine (P11.out _).mono ?_; rintro e w' ⟨rfl, rfl⟩) | (refine (Q11.out _).mono ?_; rintro e w' ⟨rfl, rfl⟩) | (refine (Q10.out _).mono ?_; rintro e w' ⟨rfl, rfl⟩))
            go_ret3
            rw [hz.out]
            exact ⟨_, rfl, World.ownsRow_nil _ _ _ _, HBR.out⟩
        · have hc : 0 < acc.length := List.length_pos_iff.2 hacc
          by_cases hq : r = E ++ [45, 45] ++ [13, 10]
          · have hz : Hid (RES = (acc, 0, 0)) := by unfold Hid; rw [hres2.out, if_pos ⟨hacc, hq⟩]
            rw [decide_eq_true hq] at hcmp
            clear hres2 hq hS hSf
            go_wp2_with (go_at_call 30; first | (refine (P10.out _).mono ?_; rintro e w' ⟨rfl, rfl⟩) | (refine (P11.out _).mono ?_; rintro e w' ⟨rfl, rfl⟩) | (refine (Q11.out _).mono ?_; rintro e w' ⟨rfl, rfl⟩) | (refine (Q10.out _).mono ?_; rintro e w' ⟨rfl, rfl⟩))
            go_ret3
            rw [hz.out]
            exact ⟨_, rfl, own_low hL.out (by have := hgh.out; omega), HBR.out⟩
          · rw [decide_eq_false hq] at hcmp
            cases hS0 : startsB r (E ++ [45, 45] ++ [13, 10])
            · rw [hp_cut hS0] at Q10
              rw [hS0] at P10
              have hz : Hid (RES = if cutB r (E ++ [13, 10]) = true ∨ cutB r (E ++ [45, 45] ++ [13, 10]) = true then (([] : List Pc), (s.size : Int), (94 : Int)) else ([], n, 92)) := by
                unfold Hid; rw [hres2.out, if_neg (fun h => hq h.2), if_neg (fun h => by rw [hS0] at h; exact absurd h.2 (by decide)), if_neg hS]
                simp [hacc]
              clear hres2
              cases hC : cutB r (E ++ [13, 10])
              · cases hC0 : cutB r (E ++ [45, 45] ++ [13, 10])
                · rw [hC] at hz Q11
                  rw [hC0] at hz Q10
                  rw [if_neg (by decide)] at hz
                  clear hC hC0 hq hS0 hS hSf
                  go_wp2_with (go_at_call 30; first | (refine (P10.out _).mono ?_; rintro e w' ⟨rfl, rfl⟩) | (refine (P11.out _).mono ?_; rintro e w' ⟨rfl, rfl⟩) | (refine (Q11.out _).mono ?_; rintro e w' ⟨rfl, rfl⟩) | (refine (Q10.out _).mono ?_; rintro e w' ⟨rfl, rfl⟩))
                  go_quiet (fail)
                  go_wp2_with fail
                  go_ret3
                  rw [hz.out]
                  exact ⟨_, rfl, World.ownsRow_nil _ _ _ _, below_drewN HBR.out _⟩
                · rw [hC] at hz Q11
                  rw [hC0] at hz Q10
                  rw [if_pos (Or.inr rfl)] at hz
                  clear hC hC0 hq hS0 hS hSf
                  go_wp2_with (go_at_call 30; first | (refine (P10.out _).mono ?_; rintro e w' ⟨rfl, rfl⟩) | (refine (P11.out _).mono ?_; rintro e w' ⟨rfl, rfl⟩) | (refine (Q11.out _).mono ?_; rintro e w' ⟨rfl, rfl⟩) | (refine (Q10.out _).mono ?_; rintro e w' ⟨rfl, rfl⟩))
                  go_ret3
                  rw [hz.out]
                  exact ⟨_, rfl, World.ownsRow_nil _ _ _ _, HBR.out⟩
              · rw [hC] at hz Q11
                rw [if_pos (Or.inl rfl)] at hz
                clear hC hq hS0 hS hSf
                go_wp2_with (go_at_call 30; first | (refine (P10.out _).mono ?_; rintro e w' ⟨rfl, rfl⟩) | (refine (P11.out _).mono ?_; rintro e w' ⟨rfl, rfl⟩) | (refine (Q11.out _).mono ?_; rintro e w' ⟨rfl, rfl⟩) | (refine (Q10.out _).mono ?_; rintro e w' ⟨rfl, rfl⟩))
                go_ret3
                rw [hz.out]
                exact ⟨_, rfl, World.ownsRow_nil _ _ _ _, HBR.out⟩
            · rw [hS0] at P10
              have hz : Hid (RES = (([] : List Pc), ((n + (E.length + 4) : Nat) : Int), (92 : Int))) := by
                unfold Hid; rw [hres2.out, if_neg (fun h => hq h.2), if_pos ⟨hacc, hS0⟩]
              clear hres2 hq hS0 hS hSf
              go_wp2_with (go_at_call 30; first | (refine (P10.out _).mono ?_; rintro e w' ⟨rfl, rfl⟩) | (refine (P11.out _).mono ?_; rintro e w' ⟨rfl, rfl⟩) | (refine (Q11.out _).mono ?_; rintro e w' ⟨rfl, rfl⟩) | (refine (Q10.out _).mono ?_; rintro e w' ⟨rfl, rfl⟩))
              go_quiet (fail)
              go_wp2_with fail
              go_ret3
              rw [hz.out]
              refine ⟨_, ?_, World.ownsRow_nil _ _ _ _, below_drewN HBR.out _⟩
              show Ending.returned _ = Ending.returned (.tuple #[_, .int .i64 ((n + (E.length + 4) : Nat) : Int), .int .i64 92])
              rw [show ((n + (E.length + 4) : Nat) : Int) = (n : Int) + (B10.size : Int) by have := HZ10.out; omega]
              rfl
end Go.Proofs.YtnodboggemggmaaGreatDoor
