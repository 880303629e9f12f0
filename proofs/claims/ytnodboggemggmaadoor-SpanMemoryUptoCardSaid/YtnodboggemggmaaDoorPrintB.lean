/- Contract of the document's Print: spans as a range header. -/
import Derived.Test.YtnodboggemggmaaDoorPrintA
import Derived.Lib.AppendStr
import Derived.Lib.SlBytesConst
namespace Go.Proofs.YtnodboggemggmaaDoor
open Go Go.RowKit
set_option maxHeartbeats 2000000

/-- a row of bytes of the call's own -/
def Bytes (w : World) (base : Nat) (v : Value) (l : List UInt8) : Prop := w.ownsRow base 5 1 v l.length (l.map fun c => Value.int .u8 (c.toNat : Int))
theorem bytes_keep {w w' : World} {b B : Nat} {v : Value} {l : List UInt8} (h : Bytes w b v l) (hb : Below B w w') (hB : w.heap.size ≤ B) : Bytes w' b v l := own_keep h hb hB
theorem bytes_alloc {w : World} {b : Nat} {v : Value} {l : List UInt8} (h : Bytes w b v l) (o : Obj) : Bytes (w.alloc o) b v l := h.alloc o
/-- 'append(v, s...)', v a row of bytes of the call's own, s a text -/
theorem appendS {w : World} {ops : Array Oper} {rest : List Oper} {o : Oper} {a : Act} {Q : Exit → Act → World → Prop} (hgd : o.guard = none) (sl x : Operand) (t : TypeId)
    (ho : o.op = .call { callee := .builtin .append, args := #[sl, x], argTypes := #[t, 9] }) (ht : Tryd.prog.underlying t = some (.slice 5))
    (base : Nat) {v : Value} {l : List UInt8} (hown : Bytes w base v l) (hs : a.eval sl = v) (s : ByteArray) (hx : a.eval x = .string s)
    (h63 : l.length + s.size ≤ 140737488355328) (hbase : base ≤ w.heap.size)
    (h : ∀ v' w', Bytes w' base v' (l ++ L s) → Below base w w' → wpList Tryd.prog ops Q rest (a.put o.dst v') w') : wpList Tryd.prog ops Q (o :: rest) a w := by
  obtain ⟨i0, hi, hz0, hz1, hz2⟩ := info_parts infoByte
  refine Lib.wpList_append_own_string w hgd sl x t 9 ho base 5 i0 ht Tryd.underlying9 hi hz0 hz1 hz2 v l.length _ hs hown s hx (by unfold maxLen; omega) h63 hbase ?_
  intro v' w' hown' hgrow _
  refine h v' w' ?_ (own_below hown hgrow hbase)
  have e1 : (l ++ L s).length = l.length + s.size := by rw [List.length_append, L_length]
  unfold Bytes
  rw [e1, List.map_append]
  exact hown'
/-- 'append(v, c)', v a row of bytes of the call's own -/
theorem bytes_snoc {w : World} {b n : Nat} {v : Value} {l : List UInt8} {c : UInt8} (hn : n = l.length + 1) (h : w.ownsRow b 5 1 v n ((l.map fun c => Value.int .u8 (c.toNat : Int)) ++ [Value.int .u8 (c.toNat : Int)])) : Bytes w b v (l ++ [c]) := by
  subst hn
  unfold Bytes
  rw [List.length_append, List.map_append]
  exact h

/-- 'append(v, s...)', v a row of bytes that is full, and marked -/
theorem appendF {w : World} {ops : Array Oper} {rest : List Oper} {o : Oper} {a : Act} {Q : Exit → Act → World → Prop} (hgd : o.guard = none) (sl x : Operand) (t : TypeId)
    (ho : o.op = .call { callee := .builtin .append, args := #[sl, x], argTypes := #[t, 9] }) (ht : Tryd.prog.underlying t = some (.slice 5))
    (base g : Nat) {l : List UInt8} (hcells : ∀ j u, (l.map fun c => Value.int .u8 (c.toNat : Int))[j]? = some u → w.cell? ⟨g, j, none⟩ = some u) (hs : a.eval sl = .slice (some ⟨g, 0, none⟩) l.length l.length) (s : ByteArray) (hx : a.eval x = .string s) (hpos : 0 < s.size)
    (h63 : l.length + s.size ≤ 140737488355328) (hbase : base ≤ w.heap.size)
    (h : ∀ v' w', Bytes w' base v' (l ++ L s) → Below base w w' → wpList Tryd.prog ops Q rest (a.put o.dst v') w') : wpList Tryd.prog ops Q (o :: rest) a w := by
  obtain ⟨i0, hi, hz0, hz1, hz2⟩ := info_parts infoByte
  refine wpList_plain hgd fun K hK => ?_
  have hr := Lib.run_append_grow_string (P := Tryd.prog) w t 9 o.type 5 i0 (.int .u8 0) ht Tryd.underlying9 hi hz0 ⟨g, 0, none⟩ l.length l.length (l.map fun c => Value.int .u8 (c.toNat : Int)) (by rw [hz1]; simp) (fun j u hj => by rw [Addr.add_lit, Nat.zero_add]; exact hcells j u hj) s (by omega) (by omega) (by rw [hz2]; exact growslice_fits (by omega) (by omega))
  have hge := grownCap_ge w (l.length + s.size) l.length 5
  have hcm : grownCap w (l.length + s.size) l.length 5 ≤ maxLen := grownCap_le_maxLen w (l.length + s.size) l.length 5 (by unfold maxLen; omega)
  have e1 : (l ++ L s).length = l.length + s.size := by rw [List.length_append, L_length]
  have e2 : ((l.map fun c => Value.int .u8 (c.toNat : Int)) ++ Lib.strCells s).length = (l.length + s.size) * 1 := by rw [List.length_append, List.length_map, Lib.strCells_length, Nat.mul_one]
  unfold Oper.wp execOp
  simp only [ho, resolve, invoke, builtin, Sem.run_bind, Sem.run_pure, Result.andThen_ok, List.map_toArray, List.map_cons, List.map_nil, hs, hx, hr]
  refine hK _ _ (h _ _ ?_ ?_)
  · unfold Bytes
    rw [e1, List.map_append]
    refine ⟨e2, .inr ⟨w.heap.size, _, _, rfl, hbase, heap_alloc_new w.drew _, hge, hcm, ?_, ?_⟩⟩
    · have hz1 : (Value.int IntKind.u8 0).cells.size = 1 := rfl
      simp only [Array.size_append, List.size_toArray, size_zeroCells, hz1, List.length_map, Lib.strCells_length]
      omega
    · simp only [Array.toList_append, List.append_assoc]
      rw [← List.append_assoc, ← e2]
      exact List.take_left
  · exact ((Below.refl _ _).drew).alloc hbase _

/-- the row of a constant text's bytes, as the conversion leaves it -/
def hdP : List UInt8 := [98, 121, 116, 101, 115, 61]
def Marked (w : World) (g : Nat) (v : Value) : Prop := v = .slice (some ⟨g, 0, none⟩) 6 6 ∧ g < w.heap.size ∧ ∀ j u, (hdP.map fun c => Value.int .u8 (c.toNat : Int))[j]? = some u → w.cell? ⟨g, j, none⟩ = some u
theorem marked_new (w : World) : Marked (w.alloc (.cells #[.int .u8 98, .int .u8 121, .int .u8 116, .int .u8 101, .int .u8 115, .int .u8 61] 5 (6, 7))) w.heap.size (.slice (some ⟨w.heap.size, 0, none⟩) 6 6) := by
  refine ⟨rfl, by show w.heap.size < (w.heap.push _).size; rw [Array.size_push]; omega, fun j u hj => ?_⟩
  rw [World.cell?_alloc_mark w #[.int .u8 98, .int .u8 121, .int .u8 116, .int .u8 101, .int .u8 115, .int .u8 61] 5 (6, 7) j]
  rw [← hj, ← Array.getElem?_toList]
  rfl
theorem marked_keep {w w' : World} {g : Nat} {v : Value} (h : Marked w g v) (hb : Below w.heap.size w w') : Marked w' g v :=
  ⟨h.1, Nat.lt_of_lt_of_le h.2.1 hb.size, fun j u hj => by rw [hb.cell (p := ⟨g, j, none⟩) h.2.1]; exact h.2.2 j u hj⟩

def accP (l : List (Int × Int)) (k : Nat) : List UInt8 := [98, 121, 116, 101, 115, 61] ++ Lib.join (piecesB (l.take k)) [44]
theorem accP_zero {l : List (Int × Int)} (h : 0 < l.length) : accP l 1 = accP l 0 ++ bytesL l[0].1 l[0].2 := by
  unfold accP
  rw [piecesB_take h]
  show _ ++ Lib.join [bytesL l[0].1 l[0].2] [44] = [98, 121, 116, 101, 115, 61] ++ [] ++ _
  rw [Lib.join_one, List.append_nil]
theorem accP_succ {l : List (Int × Int)} {k : Nat} (h : k < l.length) (hk : 0 < k) : accP l (k + 1) = accP l k ++ [44] ++ bytesL l[k].1 l[k].2 := by
  unfold accP
  rw [piecesB_take h, join_snoc _ _ (by
    intro e
    have := congrArg List.length e
    unfold piecesB at this
    simp at this
    rcases this with h2 | h2
    · omega
    · subst h2; simp at h)]
  simp only [List.append_assoc]
theorem accP_le {l : List (Int × Int)} {size : Int} {k : Nat} (ha : areO (l.take k) size = true) (hz : size ≤ 9223372036854775807) : (accP l k).length ≤ 6 + 46 * k := by
  have := join_le _ (piecesB_le ha hz)
  have e : (piecesB (l.take k)).length ≤ k := by unfold piecesB; simp; omega
  unfold accP
  rw [List.length_append]
  show 6 + _ ≤ _
  omega

set_option maxRecDepth 100000 in
theorem rprint_any (v : Value) (l : List (Int × Int)) (size : Int) (w : World) (hE : EnvP w) (h : SpanSl w v l) (nl : l.length ≤ 1048576) (hz : size ≤ 9223372036854775807) :
    Calls Tryd.prog 32 #[v, .int .i64 size] w fun e w' => e = .returned (printV l size) ∧ Below w.heap.size w w' := by
  have HE := Lib.hid hE; clear hE
  obtain ⟨V, hV⟩ := name_it (printV l size)
  rw [hV.out]
  obtain ⟨a, cap, rfl, hc⟩ := h
  have HA := Lib.hid hc
  clear hc
  by_cases h0 : size < 0
  · have hf : Hid (V = .tuple #[.string ⟨#[]⟩, .int .i64 1]) := by
      have e : printE l size = 1 := by unfold printE; rw [if_pos h0]
      rw [← hV.out]; unfold Hid printV printT; rw [e]; rfl
    clear HA
    go_enter Tryd.func32, Tryd.ntmps32
    go_wp2_with fail
    all_goals (try (exfalso; omega))
    go_ret2
    exact ⟨by rw [hf.out]; rfl, Below.refl _ _⟩
  · rcases Nat.eq_zero_or_pos l.length with hl0 | hpos
    · have hf : Hid (V = .tuple #[.string ⟨#[]⟩, .int .i64 91]) := by
        have e : printE l size = 91 := by unfold printE; rw [if_neg h0, if_pos (Or.inl (List.eq_nil_of_length_eq_zero hl0))]
        rw [← hV.out]; unfold Hid printV printT; rw [e]; rfl
      have hnl : ((l.length : Int) == 0) = true := by rw [hl0]; rfl
      clear HA
      go_enter Tryd.func32, Tryd.ntmps32
      go_wp2_with fail
      all_goals (try (exfalso; omega))
      go_ret2
      exact ⟨by rw [hf.out]; rfl, Below.refl _ _⟩
    · have hnl : ((l.length : Int) == 0) = false := by simp; intro h; rw [h] at hpos; simp at hpos
      have hne : l ≠ [] := by intro h; rw [h] at hpos; simp at hpos
      have hv1 : Hid (areO l size = false → V = .tuple #[.string ⟨#[]⟩, .int .i64 91]) := by
        intro hq
        have e : printE l size = 91 := by unfold printE; rw [if_neg h0, if_pos (Or.inr hq)]
        rw [← hV.out]; unfold printV printT; rw [e]; rfl
      have hv0 : Hid (areO l size = true → V = .tuple #[.string (bs (accP l l.length)), .int .i64 0]) := by
        intro hq
        have e : printE l size = 0 := by
          unfold printE; rw [if_neg h0, if_neg (fun hh => hh.elim hne (fun hq2 => by rw [hq] at hq2; exact absurd hq2 (by decide)))]
        rw [← hV.out]; unfold printV printT accP; rw [e, List.take_length]; rfl
      obtain ⟨i0, hi, hz0, hz1, hz2⟩ := info_parts infoByte
      have kc := fun (w : World) (C : Array Value) (n c : Nat) => Lib.run_convert_bytes_const (P := Tryd.prog) w 95 5 C n c Tryd.underlying95 Tryd.underlying5
      clear hne hV
      go_enter Tryd.func32, Tryd.ntmps32
      go_wp2_with fail
      all_goals (try (exfalso; omega))
      clear hnl kc
      go_loopw [6, 7] (fun out i wr => ∃ k : Nat, k ≤ l.length ∧ i = .int .i64 k ∧ Hid (areO (l.take k) size = true) ∧ Hid ((0 < k → Bytes wr w.heap.size out (accP l k)) ∧ (k = 0 → Marked wr w.heap.size out)) ∧ Below w.heap.size w wr) (fun _ i _ => l.length - (intOf i).toNat)
      case atStart => exact ⟨0, Nat.zero_le _, rfl, rfl, ⟨fun h => absurd h (by decide), fun _ => marked_new w⟩, (Below.refl _ _).alloc (Nat.le_refl _) _⟩
      case round =>
        obtain ⟨k, hk, rfl, hao, hby, hbr⟩ := hrel
        have hBr := hbr.size
        by_cases hlt : k < l.length
        · obtain ⟨ga, oa, rfl, hga, ha1, ha2⟩ := HA.out k hlt
          have hno := areO_no (size := size) hlt
          have hyes := areO_take (size := size) hlt
          have haz := fun (h : 0 < l.length) => accP_zero h
          have hle := accP_le hao.out hz
          have hsucc := fun (h : 0 < k) => accP_succ hlt h
          obtain ⟨p1, hp1⟩ := name_it l[k].1
          obtain ⟨p2, hp2⟩ := name_it l[k].2
          obtain ⟨b, hb⟩ := name_it (isO p1 p2 size)
          rw [hp1.out] at ha1 hno hyes hsucc; rw [hp2.out] at ha2 hno hyes hsucc
          rw [hb.out] at hno hyes
          rw [hao.out] at hyes
          rw [← hbr.cell (p := ⟨ga, _, none⟩) hga] at ha1 ha2
          have HNO := Lib.hid hno
          have HYES := Lib.hid hyes
          have HSU := Lib.hid hsucc
          have hbb := bytesL_le p1 p2
          obtain ⟨x, hx⟩ := name_it (bytesL p1 p2)
          rw [hx.out] at hbb
          rw [hx.out] at HSU
          have HAZ : Hid (k = 0 → accP l (k + 1) = accP l k ++ x) := by
            intro e
            subst e
            have := haz hlt
            rw [hp1.out, hp2.out, hx.out] at this; exact this
          clear hno hyes hsucc haz hao
          have HEr := Lib.hid (HE.out.next hbr)
          go_wp2_with fail
          refine (ris_any p1 p2 size _).mono ?_; rintro e w1 ⟨rfl, hb1⟩
          rw [hb.out]
          rw [← hb1.cell (p := ⟨ga, _, none⟩) (Nat.lt_of_lt_of_le hga hBr)] at ha1 ha2
          have hby1 : Hid (0 < k → Bytes w1 w.heap.size _ (accP l k)) := fun h => bytes_keep (hby.out.1 h) hb1 (Nat.le_refl _)
          have hmk1 : Hid (k = 0 → Marked w1 w.heap.size _) := fun h => marked_keep (hby.out.2 h) hb1
          have d1 := hbr.trans (hb1.mono hBr)
          have HE1 := Lib.hid (HEr.out.next hb1)
          clear hb1 hby hbr HEr
          have hB1 := d1.size
          cases b
          · have hf : Hid (V = .tuple #[.string ⟨#[]⟩, .int .i64 91]) := hv1.out (HNO.out rfl)
            clear HNO HYES HSU HAZ hv0 hv1
            go_wp2_with fail
            go_ret2
            exact ⟨by rw [hf.out]; rfl, d1⟩
          · have hO : 0 ≤ p1 ∧ p1 < p2 ∧ p2 ≤ size := of_decide_eq_true hb.out
            obtain ⟨o1, o2, o3⟩ := hO
            have hxl := hbb o1 o2 (by omega)
            have hxs : (bs x).size = x.length := size_bs x
            clear hbb HNO
            obtain ⟨A, hA⟩ := name_it (accP l k)
            rw [hA.out] at hby1 hle
            by_cases hk0 : k = 0
            · subst hk0
              simp only [Nat.zero_mul, Nat.add_zero] at ha1 ha2
              have hst : Hid (accP l (0 + 1) = hdP ++ x) := by
                rw [HAZ.out rfl]
                unfold Hid accP hdP
                show _ ++ [] ++ x = _
                rw [List.append_nil]
              have hpx : 0 < x.length := by
                rw [← hx.out]
                have := bytesL_ne (a := p1) (b := p2)
                cases hq : bytesL p1 p2 with
                | nil => exact absurd hq this
                | cons _ _ => simp
              have HM := Lib.hid (hmk1.out rfl)
              obtain ⟨m1, m2, m3⟩ := hmk1.out rfl
              subst m1
              clear HAZ HSU hA hby1 hmk1 m2 m3
              go_wp2_with fail
              all_goals (try (exfalso; omega))
              refine (rends_any p1 p2 o1 o2 (by omega) _ HE1.out).mono ?_; rintro e w2 ⟨rfl, hb2⟩
              rw [hx.out]
              have hm2 := Lib.hid (marked_keep HM.out hb2)
              have d2 := d1.trans (hb2.mono hB1)
              have hB2 := d2.size
              clear HM hb2
              go_wp2_with (at_builtin; refine appendF rfl _ _ 95 rfl Tryd.underlying95 w.heap.size w.heap.size (l := hdP) hm2.out.2.2 rfl (bs x) rfl ?_ ?_ ?_ ?_)
              · omega
              · show 6 + _ ≤ _; omega
              · exact hB2
              intro v3 w3 hby3 hb3
              have H3 : Hid (Bytes w3 w.heap.size v3 (accP l (0 + 1))) := by unfold Hid; rw [hst.out]; exact hby3
              have d3 := d2.trans hb3
              clear hby3 hb3
              go_wp2_with fail
              go_roundw
              case rel => exact ⟨0 + 1, by omega, by go_num, HYES, ⟨fun _ => H3.out, fun h => by omega⟩, d3⟩
              case measure => simp [intOf]; omega
            · have hst : Hid (accP l (k + 1) = A ++ [44] ++ x) := by rw [← hA.out]; exact HSU.out (by omega)
              have hby1 := Lib.hid (hby1.out (by omega))
              clear HAZ HSU hA hmk1
              go_wp2_with (at_builtin; refine append1 rfl _ _ 95 rfl w.heap.size 5 i0 (.int .u8 0) 1 Tryd.underlying95 hi hz0 hz1 hz2 rfl hby1.out rfl (.int .u8 44) rfl rfl ?_ ?_ ?_ ?_)
              all_goals (try (exfalso; omega))
              · unfold maxLen; omega
              · omega
              · exact hB1
              intro g2 cap2 w2 hg2 hown2 hb2
              have hby2 : Hid (Bytes w2 w.heap.size (.slice (some ⟨g2, 0, none⟩) (A.length + 1) cap2) (A ++ [44])) := bytes_snoc (c := 44) rfl hown2
              rw [← hb2.cell (p := ⟨ga, _, none⟩) hga] at ha1 ha2
              have d2 := d1.trans hb2
              have hB2 := d2.size
              have HE2 := Lib.hid (HE.out.next d2)
              clear hown2 hb2 hby1
              go_wp2_with fail
              refine (rends_any p1 p2 o1 o2 (by omega) _ HE2.out).mono ?_; rintro e w3 ⟨rfl, hb3⟩
              rw [hx.out]
              have hby3 : Hid (Bytes w3 w.heap.size (.slice (some ⟨g2, 0, none⟩) (A.length + 1) cap2) (A ++ [44])) := bytes_keep hby2.out hb3 (Nat.le_refl _)
              have d3 := d2.trans (hb3.mono hB2)
              have hB3 := d3.size
              clear hby2 hb3
              go_wp2_with (at_builtin; refine appendS rfl _ _ 95 rfl Tryd.underlying95 w.heap.size hby3.out rfl (bs x) rfl ?_ ?_ ?_)
              · simp; omega
              · exact hB3
              intro v4 w4 hby4 hb4
              have H4 : Hid (Bytes w4 w.heap.size v4 (accP l (k + 1))) := by unfold Hid; rw [hst.out]; rw [List.append_assoc]; exact hby4
              have d4 := d3.trans hb4
              clear hby4 hb4
              go_wp2_with fail
              go_roundw
              case rel => exact ⟨k + 1, by omega, by go_num, HYES, ⟨fun _ => H4.out, fun h => by omega⟩, d4⟩
              case measure => simp [intOf]; omega
        · obtain rfl : k = l.length := by omega
          have hf : Hid (V = .tuple #[.string (bs (accP l l.length)), .int .i64 0]) := by
            have := hao.out
            rw [List.take_length] at this
            exact hv0.out this
          have hby := Lib.hid (hby.out.1 hpos)
          obtain ⟨A, hA⟩ := name_it (accP l l.length)
          rw [hA.out] at hby hf
          have hconv := own_string (P := Tryd.prog) 95 9 5 hby.out Tryd.underlying95 Tryd.underlying5 Tryd.underlying9
          go_wp2_with fail
          go_ret2
          exact ⟨by rw [hf.out]; rfl, hbr⟩
end Go.Proofs.YtnodboggemggmaaDoor
