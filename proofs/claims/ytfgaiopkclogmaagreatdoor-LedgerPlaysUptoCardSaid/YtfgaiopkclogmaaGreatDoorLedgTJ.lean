/- Contract of the document's ledger: a quoted target. -/
import Derived.Test.YtfgaiopkclogmaaGreatDoorMe
import Derived.Test.YtfgaiopkclogmaaGreatDoorMb
namespace Go.Proofs.YtfgaiopkclogmaaGreatDoor
open Go Go.RowKit
set_option maxHeartbeats 4000000

theorem infoByteL : (Tryz.prog.info? 5).map (fun i => (i.zero, i.size, i.bytes)) = some (some (.int .u8 0), 1, 1) := by kernel_rfl
theorem byteVals_snocL (l : List UInt8) (c : UInt8) : (l.map fun c => Value.int .u8 (c.toNat : Int)) ++ [Value.int .u8 (c.toNat : Int)] = (l ++ [c]).map fun c => Value.int .u8 (c.toNat : Int) := by simp
/-- a row of bytes of the call's own -/
def Byt (w : World) (base : Nat) (v : Value) (l : List UInt8) : Prop := w.ownsRow base 5 1 v l.length (l.map fun c => Value.int .u8 (c.toNat : Int))
theorem Byt.snoc {w : World} {b n : Nat} {v : Value} {l : List UInt8} {c : UInt8} (hn : n = l.length + 1) (h : w.ownsRow b 5 1 v n ((l.map fun c => Value.int .u8 (c.toNat : Int)) ++ [Value.int .u8 (c.toNat : Int)])) : Byt w b v (l ++ [c]) := by
  subst hn
  unfold Byt
  rw [List.length_append, List.map_append]
  exact h
/-- a row's value: a slice of so many elements -/
theorem Byt.slice {w : World} {b : Nat} {v : Value} {l : List UInt8} (h : Byt w b v l) : ∃ p cap, v = .slice p l.length cap := by
  rcases h.2 with ⟨rfl, h0⟩ | ⟨g, cap, cur, rfl, _⟩
  · exact ⟨none, 0, by rw [h0]⟩
  · exact ⟨_, _, rfl⟩
theorem Byt.nil (w : World) (b : Nat) : Byt w b (.slice none 0 0) [] := World.ownsRow_nil ..

def tgtV (S : List UInt8) (n : Nat) : Value :=
  .tuple #[.string (bs (if (tgtS S (n, false)).2.2 = true then [] else (tgtS S (n, false)).1)), .int .i64 ((tgtS S (n, false)).2.1 : Nat), .bool (!(tgtS S (n, false)).2.2)]
theorem tgtV_no {S o : List UInt8} {n m : Nat} (h : tgtS S (n, false) = (o, (m, true))) : tgtV S n = .tuple #[.string (bs []), .int .i64 (m : Nat), .bool false] := by
  unfold tgtV; rw [h]; rfl
theorem tgtV_yes {S o : List UInt8} {n m : Nat} (h : tgtS S (n, false) = (o, (m, false))) : tgtV S n = .tuple #[.string (bs o), .int .i64 (m : Nat), .bool true] := by
  unfold tgtV; rw [h]; rfl
theorem L_get {s : ByteArray} {p : Nat} (h : p < s.size) : (L s)[p]? = some s[p] := by rw [List.getElem?_eq_getElem (by rw [L_length]; exact h)]; rfl
theorem L_none {s : ByteArray} {p : Nat} (h : ¬ p < s.size) : (L s)[p]? = none := List.getElem?_eq_none (by rw [L_length]; omega)
theorem u8_of {c : UInt8} {k : Nat} (hk : k < 256) (h : (c.toNat : Int) = (k : Int)) : c = UInt8.ofNat k := by
  apply UInt8.toNat_inj.1
  rw [UInt8.toNat_ofNat']
  omega

set_option maxRecDepth 100000 in
theorem rtarget_any (s : ByteArray) (n : Nat) (w : World) (hn : n ≤ s.size) (hs : s.size ≤ 1073741824) :
    Calls Tryz.prog 40 #[.string s, .int .i64 n] w fun e w' => e = .returned (tgtV (L s) n) ∧ Below w.heap.size w w' := by
  obtain ⟨i0, hi, hz0, hz1, hz2⟩ := info_parts infoByteL
  obtain ⟨V, hV⟩ := name_it (tgtV (L s) n)
  rw [hV.out]
  by_cases h0 : n < s.size
  · by_cases hq : (s[n].toNat : Int) = 34
    · have hqs : (L s)[n]? = some 34 := by rw [L_get h0, u8_of (k := 34) (by omega) hq]; rfl
      obtain ⟨Q, hQ⟩ := name_it (tgtK ((L s).drop (n + 1)) [] 0)
      have fbad : Hid (∀ o k, Q = (o, k, true) → V = .tuple #[.string (bs []), .int .i64 ((n + 1 + k : Nat) : Int), .bool false]) := by
        intro o k h; rw [← hV.out]; exact tgtV_no (tgt_bad hqs (hQ.out.trans h))
      have fempty : Hid (∀ k, Q = ([], k, false) → V = .tuple #[.string (bs []), .int .i64 ((n + 1 + k : Nat) : Int), .bool false]) := by
        intro k h; rw [← hV.out]; exact tgtV_no (tgt_empty hqs (hQ.out.trans h))
      have fend : Hid (∀ o k, Q = (o, k, false) → (L s)[n + 1 + k]? ≠ some 34 → V = .tuple #[.string (bs []), .int .i64 ((n + 1 + k : Nat) : Int), .bool false]) := by
        intro o k h he; rw [← hV.out]; exact tgtV_no (tgt_end hqs (hQ.out.trans h) he)
      have fdone : Hid (∀ o k, Q = (o, k, false) → o ≠ [] → (L s)[n + 1 + k]? = some 34 → V = .tuple #[.string (bs o), .int .i64 ((n + 1 + k + 1 : Nat) : Int), .bool true]) := by
        intro o k h ho he; rw [← hV.out]; exact tgtV_yes (tgt_done hqs (hQ.out.trans h) ho he)
      have q1 : ((s[n].toNat : Int) != 34) = false := by rw [hq]; rfl
      clear hV hqs
      have HQ := Lib.hid hq; clear hq
      go_enter Tryz.func40, Tryz.ntmps40
      go_wp2_with fail
      all_goals (try (exfalso; omega))
      clear q1
      go_loopw [7, 8] (fun v i wr => ∃ (k : Nat) (acc : List UInt8), n + 1 + k ≤ s.size ∧ i = .int .i64 ((n + 1 + k : Nat) : Int) ∧ acc.length ≤ 65536 ∧ Hid (Byt wr w.heap.size v acc) ∧ Hid (tgtK ((L s).drop (n + 1 + k)) acc k = Q) ∧ Below w.heap.size w wr) (fun _ i _ => s.size + 1 - (intOf i).toNat)
      case atStart => exact ⟨0, [], by omega, rfl, by simp, Lib.hid (own_empty w _ _ (Nat.le_refl _)), hQ, (Below.refl _ _).alloc (Nat.le_refl _) _⟩
      clear hQ HQ
      case round =>
        obtain ⟨k, acc, hnk, rfl, hacc, hbd, hr, hbr⟩ := hrel
        obtain ⟨p, hp⟩ : ∃ p, p = n + 1 + k := ⟨_, rfl⟩
        rw [← hp] at hnk hr ⊢
        have HP := Lib.hid hp
        clear hp
        obtain ⟨sp, cap, rfl⟩ := hbd.out.slice
        by_cases hlt : p < s.size
        · obtain ⟨c, hc⟩ := name_it s[p]
          have hdr : Hid ((L s).drop p = c :: (L s).drop (p + 1)) := by rw [← hc.out]; exact L_drop hlt
          have hgt : Hid ((L s)[p]? = some c) := by rw [← hc.out]; exact L_get hlt
          have hck := hc.out
          by_cases hq : (c.toNat : Int) = 34
          · have hc34 := u8_of (k := 34) (by omega) hq
            have hst := hr.out
            rw [hdr.out, tgtK_quote _ _ _ hc34] at hst
            have hqb : ((c.toNat : Int) == 34) = true := by rw [hq]; rfl
            have hg2 : (L s)[n + 1 + k]? = some 34 := by rw [← HP.out, hgt.out, hc34]; rfl
            by_cases ha : acc.length = 0
            · have ha2 : acc = [] := List.eq_nil_of_length_eq_zero ha
              subst ha2
              have hf := Lib.hid (fempty.out k hst.symm)
              rw [← HP.out] at hf
              clear hst hg2 hq hc34 fbad fempty fend fdone
              go_wp2_with fail
              all_goals (try (exfalso; omega))
              go_ret3
              exact ⟨by rw [hf.out]; rfl, hbr⟩
            · have hf := Lib.hid (fdone.out acc k hst.symm (fun e => ha (by rw [e]; rfl)) hg2)
              rw [← HP.out] at hf
              have hab : ((acc.length : Int) == 0) = false := by rw [beq_eq_false_iff_ne]; omega
              have hconv := own_string (P := Tryz.prog) 59 9 5 hbd.out Tryz.underlying59 Tryz.underlying5 Tryz.underlying9
              clear hst hg2 hq hc34 fbad fempty fend fdone
              go_wp2_with fail
              all_goals (try (exfalso; omega))
              go_ret3
              exact ⟨by rw [hf.out]; rfl, hbr⟩
          · have hc34 : c ≠ 34 := fun e => hq (by rw [e]; rfl)
            have hqb : ((c.toNat : Int) == 34) = false := by simp [hq]
            by_cases hbad : tgtB c = false ∨ acc.length = 65536
            · have hst := hr.out
              rw [hdr.out, tgtK_bad _ _ _ hc34 hbad] at hst
              have hf := Lib.hid (fbad.out _ k hst.symm)
              rw [← HP.out] at hf
              have hbad2 : (c.toNat : Int) < 33 ∨ 126 < (c.toNat : Int) ∨ acc.length = 65536 := by
                rcases hbad with h | h
                · have := of_decide_eq_false h; omega
                · exact Or.inr (Or.inr h)
              clear hst hbad hc34 fbad fempty fend fdone
              by_cases ha : acc.length = 65536
              · have hab : ((acc.length : Int) == 65536) = true := by rw [ha]; rfl
                have HA := Lib.hid ha
                clear hbad2 ha
                go_wp2_with fail
                all_goals (try (exfalso; omega))
                all_goals
                  go_ret3
                  exact ⟨by rw [hf.out]; rfl, hbr⟩
              · have hab : ((acc.length : Int) == 65536) = false := by rw [beq_eq_false_iff_ne]; omega
                go_wp2_with fail
                all_goals (try (exfalso; omega))
                all_goals
                  go_ret3
                  exact ⟨by rw [hf.out]; rfl, hbr⟩
            · have htb : tgtB c = true := by
                cases hh : tgtB c with
                | true => rfl
                | false => exact absurd (Or.inl hh) hbad
              have hal : acc.length < 65536 := by
                have : acc.length ≠ 65536 := fun e => hbad (Or.inr e)
                omega
              have hab : ((acc.length : Int) == 65536) = false := by rw [beq_eq_false_iff_ne]; omega
              obtain ⟨b1, b2⟩ := of_decide_eq_true htb
              by_cases hbk : (c.toNat : Int) = 92
              · have hc92 := u8_of (k := 92) (by omega) hbk
                have hbkb : ((c.toNat : Int) == 92) = true := by rw [hbk]; rfl
                by_cases hend : p + 1 = s.size
                · have hst := hr.out
                  rw [hdr.out, List.drop_of_length_le (by rw [L_length]; omega), tgtK_back0 _ _ htb hal hc92] at hst
                  have hf := Lib.hid (fbad.out _ (k + 1) hst.symm)
                  rw [← Nat.add_assoc, ← HP.out] at hf
                  have hendb : ((p : Int) + 1 == (s.size : Int)) = true := by rw [beq_iff_eq]; omega
                  have HE := Lib.hid hend
                  clear hst hbad hc34 hc92 htb hbk hq hend fbad fempty fend fdone
                  go_wp2_with fail
                  all_goals (try (exfalso; omega))
                  go_ret3
                  exact ⟨by rw [hf.out]; rfl, hbr⟩
                · have hlt2 : p + 1 < s.size := by omega
                  have hendb : ((p : Int) + 1 == (s.size : Int)) = false := by rw [beq_eq_false_iff_ne]; omega
                  obtain ⟨d, hd⟩ := name_it s[p + 1]
                  have hdr2 : Hid ((L s).drop (p + 1) = d :: (L s).drop (p + 2)) := by rw [← hd.out]; exact L_drop hlt2
                  have hck2 := hd.out
                  by_cases hdd : d ≠ 34 ∧ d ≠ 92
                  · have hst := hr.out
                    rw [hdr.out, hdr2.out, tgtK_back1 _ _ _ htb hal hc92 hdd] at hst
                    have hf := Lib.hid (fbad.out _ (k + 1) hst.symm)
                    rw [← Nat.add_assoc, ← HP.out] at hf
                    have d1 : ((d.toNat : Int) != 34) = true := by rw [bne_iff_ne]; intro e; exact hdd.1 (u8_of (k := 34) (by omega) e)
                    have d2 : ((d.toNat : Int) != 92) = true := by rw [bne_iff_ne]; intro e; exact hdd.2 (u8_of (k := 92) (by omega) e)
                    clear hst hbad hc34 hc92 htb hbk hq hend hdd fbad fempty fend fdone
                    go_wp2_with fail
                    all_goals (try (exfalso; omega))
                    go_ret3
                    exact ⟨by rw [hf.out]; rfl, hbr⟩
                  · have hdd2 : d = 34 ∨ d = 92 := by
                      by_cases e : d = 34
                      · exact Or.inl e
                      · by_cases e2 : d = 92
                        · exact Or.inr e2
                        · exact absurd ⟨e, e2⟩ hdd
                    have hst := hr.out
                    rw [hdr.out, hdr2.out, tgtK_back2 _ _ _ htb hal hc92 hdd2] at hst
                    have HS := Lib.hid hst
                    have hdb : (((d.toNat : Int) != 92) = true ∧ ((d.toNat : Int) != 34) = false) ∨ ((d.toNat : Int) != 92) = false := by
                      rcases hdd2 with e | e
                      · exact Or.inl ⟨by rw [e]; rfl, by rw [e]; rfl⟩
                      · exact Or.inr (by rw [e]; rfl)
                    clear hst hbad hc34 hc92 htb hbk hq hend hdd hdd2 fbad fempty fend fdone
                    rcases hdb with ⟨d1, d2⟩ | d1
                    all_goals
                      go_wp2_with (at_builtin; refine append1 rfl _ _ 59 rfl w.heap.size 5 i0 (.int .u8 0) 1 Tryz.underlying59 hi hz0 hz1 hz2 rfl hbd.out rfl (.int .u8 (d.toNat : Int)) rfl rfl ?_ ?_ ?_ ?_)
                      all_goals (try (exfalso; omega))
                      · unfold maxLen; omega
                      · omega
                      · exact hbr.size
                      intro g cap w2 hg hown2 hb2
                      have hbd3 := Lib.hid (Byt.snoc (c := d) rfl hown2)
                      clear hown2
                      go_wp2_with fail
                      go_roundw
                      case rel =>
                        have := HP.out
                        exact ⟨k + 2, acc ++ [d], by omega, by go_num, by simp; omega, hbd3, by rw [show n + 1 + (k + 2) = p + 2 by omega]; exact HS, hbr.trans hb2⟩
                      case measure => simp [intOf]; omega
              · have hc92 : c ≠ 92 := fun e => hbk (by rw [e]; rfl)
                have hbkb : ((c.toNat : Int) == 92) = false := by simp [hbk]
                have hst := hr.out
                rw [hdr.out, tgtK_else _ _ _ hc34 htb hal hc92] at hst
                have HS := Lib.hid hst
                clear hst hbad hc34 hc92 htb hbk hq fbad fempty fend fdone
                go_wp2_with (at_builtin; refine append1 rfl _ _ 59 rfl w.heap.size 5 i0 (.int .u8 0) 1 Tryz.underlying59 hi hz0 hz1 hz2 rfl hbd.out rfl (.int .u8 (c.toNat : Int)) rfl rfl ?_ ?_ ?_ ?_)
                all_goals (try (exfalso; omega))
                · unfold maxLen; omega
                · omega
                · exact hbr.size
                intro g cap w2 hg hown2 hb2
                have hbd3 := Lib.hid (Byt.snoc (c := c) rfl hown2)
                clear hown2
                go_wp2_with fail
                go_roundw
                case rel =>
                  have := HP.out
                  exact ⟨k + 1, acc ++ [c], by omega, by go_num, by simp; omega, hbd3, by rw [show n + 1 + (k + 1) = p + 1 by omega]; exact HS, hbr.trans hb2⟩
                case measure => simp [intOf]; omega
        · have hf := Lib.hid (fend.out acc k (by
            have := hr.out
            rw [List.drop_of_length_le (by rw [L_length]; omega), tgtK_nil] at this
            exact this.symm) (by rw [← HP.out, L_none hlt]; intro e; cases e))
          rw [← HP.out] at hf
          clear fbad fempty fend fdone
          go_wp2_with fail
          all_goals (try (exfalso; omega))
          go_ret3
          exact ⟨by rw [hf.out]; rfl, hbr⟩
    · have hf : Hid (V = .tuple #[.string (bs []), .int .i64 (n : Nat), .bool false]) := by
        rw [← hV.out]
        exact tgtV_no (tgt_noquote (by rw [L_get h0]; intro e; injection e with e; exact hq (by rw [e]; rfl)))
      have q1 : ((s[n].toNat : Int) != 34) = true := by rw [bne_iff_ne]; exact hq
      clear hV
      go_enter Tryz.func40, Tryz.ntmps40
      go_wp2_with fail
      all_goals (try (exfalso; omega))
      go_ret3
      exact ⟨by rw [hf.out]; rfl, (Below.refl _ _).alloc (Nat.le_refl _) _⟩
  · have hf : Hid (V = .tuple #[.string (bs []), .int .i64 (n : Nat), .bool false]) := by
      rw [← hV.out]
      exact tgtV_no (tgt_noquote (by rw [L_none h0]; intro e; cases e))
    clear hV
    go_enter Tryz.func40, Tryz.ntmps40
    go_wp2_with fail
    all_goals (try (exfalso; omega))
    go_ret3
    exact ⟨by rw [hf.out]; rfl, (Below.refl _ _).alloc (Nat.le_refl _) _⟩
end Go.Proofs.YtfgaiopkclogmaaGreatDoor
