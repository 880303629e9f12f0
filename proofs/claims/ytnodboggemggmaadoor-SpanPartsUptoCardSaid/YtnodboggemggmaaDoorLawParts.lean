/- SpanParts: the walk of the law; what is put in parts, among a law's arguments. -/
import Derived.Test.YtnodboggemggmaaDoorPartsB
import Derived.Test.YtnodboggemggmaaDoorLawPrints
import Derived.Test.YtnodboggemggmaaDoorWrapSpans
namespace Go.Proofs.YtnodboggemggmaaDoor
open Go Go.RowKit Go.ChangeShapes Go.ChangeMaps Go.WideShapes Go.ChangeAt
set_option maxHeartbeats 2000000

theorem parted_cells : Tryd.prog.cellsOf 52 = 4 := by kernel_rfl
theorem str_cells : Tryd.prog.cellsOf 9 = 1 := by kernel_rfl
theorem spans_cells : Tryd.prog.cellsOf 22 = 1 := by kernel_rfl
set_option maxRecDepth 100000 in
theorem open_parted {H : Type} {enc : TypeId × Value → H} {W : World} {r : Reach} {b0 : Nat} {v : Value} {d : DataW H} {ps : List MemPlace} (hval : Value.okWide Tryd.prog W r b0 52 v) (hd : DataW.Trod enc Tryd.prog W 0 (fun _ => true) true 52 v d ps) :
    ∃ (b k body : ByteArray) (u : Value) (l : List (Int × Int)), v = .agg #[.string b, .string k, .string body, u] ∧ SpanSl W u l ∧ b.size + k.size + body.size + 3 * l.length ≤ Rows.uptoBulk d ∧ ∀ x, x ∈ l → (-9223372036854775808 ≤ x.1 ∧ x.1 ≤ 9223372036854775807) ∧ (-9223372036854775808 ≤ x.2 ∧ x.2 ≤ 9223372036854775807) := by
  obtain ⟨cs, rfl, hsz⟩ := okWide_struct Tryd.underlying52 hval
  obtain ⟨fuel, hf⟩ := hd
  rw [parted_cells] at hsz
  obtain ⟨xs, n, _, hx, _, hlen, hg⟩ := DataW.trod_struct Tryd.underlying52 hf
  obtain ⟨l⟩ := cs
  match l, hsz, xs, hlen with
  | [u0, u1, u2, u3], _, [y0, y1, y2, y3], _ =>
    have g0 := hg 0 _ rfl
    have g1 := hg 1 _ rfl
    have g2 := hg 2 _ rfl
    have g3 := hg 3 _ rfl
    simp only [Value.cells, List.getElem?_cons_zero, List.getElem?_cons_succ] at g0 g1 g2 g3
    obtain ⟨n0, e0, k0, w0⟩ := DataW.trod_string Tryd.underlying9 g0
    obtain ⟨n1, e1, k1, w1⟩ := DataW.trod_string Tryd.underlying9 g1
    obtain ⟨n2, e2, k2, w2⟩ := DataW.trod_string Tryd.underlying9 g2
    simp [str_cells] at e0 e1 e2
    simp [spans_cells] at g3
    obtain ⟨sl, q1, q2, q3⟩ := open_spans_at (d := y3.1) (ps := y3.2) g3
    subst e0; subst e1; subst e2
    subst k0; subst k1; subst k2
    simp only [Prod.mk.injEq] at hx
    refine ⟨n0, n1, n2, u3, sl, rfl, q1, ?_, q3⟩
    rw [hx.1]
    simp [Rows.uptoBulk, Rows.uptoBulkAll]
    have z0 : n0.data.toList.length = n0.size := L_length n0
    have z1 : n1.data.toList.length = n1.size := L_length n1
    have z2 : n2.data.toList.length = n2.size := L_length n2
    simp only [Array.length_toList] at z0 z1 z2
    omega

set_option maxRecDepth 100000 in
theorem lawParts_any (b k body : ByteArray) (v : Value) (l : List (Int × Int)) (w : World) (hE : EnvP w) (h : SpanSl w v l) (hn : b.size + k.size + body.size + 3 * l.length ≤ 1048576) (hbd : ∀ x, x ∈ l → x.2 ≤ 9223372036854775807) :
    Calls Tryd.prog 8 #[.agg #[.string b, .string k, .string body, v]] w fun e w' => e = .returned (.bool true) ∧ Below w.heap.size w w' := by
  have hb0 : Below w.heap.size w (w.alloc (.cells #[.string b, .string k, .string body, v] 52)) := (Below.refl _ _).alloc (Nat.le_refl _) _
  obtain ⟨a, cap, hva, _⟩ := id h
  subst hva
  have HS := Lib.hid (spanSl_keep h hb0)
  have HE := Lib.hid (hE.alloc (.cells #[.string b, .string k, .string body, .slice a l.length cap] 52))
  have hsp := fun wx (hx : SpanSl wx (.slice a l.length cap) l) => spans_any (.slice a l.length cap) l wx hx (by omega)
  have HSP := Lib.hid hsp
  have hp := fun wx hE hx => parts_any b k body (.slice a l.length cap) l wx hE hx hn
  have hr := fun wx u hE hx => rparts_any b k body u l wx hE hx hn hbd
  have HP := Lib.hid hp
  have HR := Lib.hid hr
  obtain ⟨X, hX⟩ := name_it (if partsE (L b) (L k) (L body) l = 0 then bs (partsT (L b) (L k) (L body) l) else ⟨#[]⟩)
  obtain ⟨Y, hY⟩ := name_it (partsE (L b) (L k) (L body) l)
  have hpv : Hid (partsV (L b) (L k) (L body) l = .tuple #[.string X, .int .i64 Y]) := by unfold Hid partsV; rw [hX.out, hY.out]
  clear hsp hp hr hX hY h hE hb0
  go_enter Tryd.func8, Tryd.ntmps8
  go_wp2_with fail
  refine (HSP.out _ HS.out).mono ?_; rintro e w1 ⟨u, rfl, hrow, hb1⟩
  obtain ⟨ua, ucap, hu⟩ := spanRow_slice hrow
  subst hu
  have HT1 := Lib.hid (spanSl_of_row hrow)
  have HE1 := Lib.hid (HE.out.next hb1)
  have HS1 := Lib.hid (spanSl_keep HS.out hb1)
  obtain ⟨hc, -, -, hbw⟩ := box_facts hb1
  have hc0 := hc 0
  have hc1 := hc 1
  have hc2 := hc 2
  have hc3 := hc 3
  clear hrow HSP hc hbw
  go_wp2_with fail
  refine (HP.out _ HE1.out HS1.out).mono ?_; rintro e w2 ⟨rfl, hb2⟩
  rw [hpv.out]
  have d2 := hb1.trans (hb2.mono hb1.size)
  have HT2 := Lib.hid (spanSl_keep HT1.out hb2)
  have HE2 := Lib.hid (HE1.out.next hb2)
  have HS2 := Lib.hid (spanSl_keep HS1.out hb2)
  obtain ⟨hc, -, -, hbw⟩ := box_facts d2
  have hc0 := hc 0
  have hc1 := hc 1
  have hc2 := hc 2
  have hc3 := hc 3
  clear hb1 hb2 HT1 HS1 hc hbw HP
  go_wp2_with fail
  refine (HR.out _ _ HE2.out HT2.out).mono ?_; rintro e w3 ⟨rfl, hb3⟩
  rw [hpv.out]
  have d3 := d2.trans (hb3.mono d2.size)
  have HT3 := Lib.hid (spanSl_keep HT2.out hb3)
  have HE3 := Lib.hid (HE2.out.next hb3)
  have HS3 := Lib.hid (spanSl_keep HS2.out hb3)
  clear d2 hb3 HT2 HS2 HR
  go_wp2_with fail
  refine (awake_any _ HE3.out.env).mono ?_; rintro e w4 ⟨rfl, hb4⟩
  have d4 := d3.trans (hb4.mono d3.size)
  have HT4 := Lib.hid (spanSl_keep HT3.out hb4)
  have HS4 := Lib.hid (spanSl_keep HS3.out hb4)
  obtain ⟨hc, -, -, hbw⟩ := box_facts d4
  have hc3 := hc 3
  clear d3 hb4 HT3 HS3 hc hbw
  go_wp2_with fail
  all_goals (try (exfalso; omega))
  refine (lsame_any _ _ l l _ HS4.out HT4.out (by unfold maxLen; omega) (by unfold maxLen; omega)).mono ?_; rintro e w5 ⟨rfl, hb5⟩
  rw [decide_eq_true rfl]
  have d5 := d4.trans (hb5.mono d4.size)
  obtain ⟨-, -, -, hbw⟩ := box_facts d5
  go_wp2_with fail
  go_ret
  exact ⟨rfl, hbw⟩
end Go.Proofs.YtnodboggemggmaaDoor
