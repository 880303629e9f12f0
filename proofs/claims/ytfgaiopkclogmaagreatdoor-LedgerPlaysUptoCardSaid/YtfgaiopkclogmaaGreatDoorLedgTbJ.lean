/- Texts with counts: the closure that compares, slices.SortFunc at a row of them, slices.Clone. -/
import Derived.Test.YtfgaiopkclogmaaGreatDoorMg
import Derived.Test.YtfgaiopkclogmaaGreatDoorSortLay
import Derived.Test.YtfgaiopkclogmaaGreatDoorMf
import Derived.Laws.CopyRow
import Derived.Shelf.SlSortCmp.NoneTotal
namespace Go.Proofs.YtfgaiopkclogmaaGreatDoor
open Go Go.RowKit Go.Sort Go.Shelf
set_option maxHeartbeats 4000000

abbrev tTl : TypeId := 61
abbrev Ty := {p : Tx × Int // 0 ≤ p.2 ∧ p.2 ≤ 1000000}
instance : Inhabited Ty := ⟨⟨([], 0), by decide⟩⟩
def encY (p : Ty) : List Value := encT p.1
def cfY (p q : Ty) : Int := cfT p.1 q.1
theorem cfY_lt (x y : Ty) : ltOf cfY x y = befT x.1 y.1 := cfT_neg x.1 y.1
theorem cfY_swo : SWO (ltOf cfY) where
  irrefl x := by rw [cfY_lt, befT_irrefl]
  trans x y z h1 h2 := by
    rw [cfY_lt] at *
    exact befT_trans h1 h2
  ntrans x y z h1 h2 := by
    rw [cfY_lt] at *
    exact befT_ntrans h1 h2
theorem tclosure_any (x y : Ty) (W : World) : Calls Tryz.prog 46 #[.agg #[.string (bs x.1.1), .int .i64 x.1.2], .agg #[.string (bs y.1.1), .int .i64 y.1.2]] W fun e w' => e = .returned (.int .i64 (cfY x y)) ∧ ∃ q os', w' = grow (W.drewN q) os' := by
  obtain ⟨R, hR⟩ := name_it (cfY x y)
  rw [hR.out]
  obtain ⟨⟨x1, x2⟩, hx0, hx1⟩ := x
  obtain ⟨⟨y1, y2⟩, hy0, hy1⟩ := y
  dsimp only at hx0 hx1 hy0 hy1 ⊢
  have hcf : R = if x2 = y2 then Lib.compareBytes x1 y1 else y2 - x2 := hR.out.symm
  have hw : IntKind.i64.wrap (y2 - x2) = y2 - x2 := IntWalk.i64_in _ (by omega)
  have HC := Lib.hid (fun wx => Tryz.strings_Compare (bs x1) (bs y1) wx)
  have e1 : (bs x1).data.toList = x1 := L_bs x1
  have e2 : (bs y1).data.toList = y1 := L_bs y1
  rw [e1, e2] at HC
  clear e1 e2 hR
  obtain ⟨X1, hX1⟩ := name_it (bs x1)
  obtain ⟨Y1, hY1⟩ := name_it (bs y1)
  rw [hX1.out, hY1.out] at HC ⊢
  clear hX1 hY1
  by_cases h1 : x2 = y2
  · rw [if_pos h1] at hcf
    rw [← hcf] at HC
    clear hcf
    subst h1
    go_enter Tryz.func46, Tryz.ntmps46
    go_wp2_with fail
    all_goals (try (exfalso; omega))
    refine (HC.out _).mono ?_; rintro e w' ⟨rfl, rfl⟩
    go_wp2_with fail
    go_ret
    exact ⟨rfl, 0, _, by rw [alloc_eq_grow, alloc_eq_grow, grow_grow]; rfl⟩
  · rw [if_neg h1] at hcf
    have hb : (x2 == y2) = false := by simpa using h1
    go_enter Tryz.func46, Tryz.ntmps46
    go_wp2_with fail
    all_goals (try (exfalso; omega))
    go_ret
    exact ⟨by first | rfl | (rw [hcf]; done) | (rw [hcf]; rfl), 0, _, by rw [alloc_eq_grow, alloc_eq_grow, grow_grow]; rfl⟩

theorem below_sortWorldT {B : Nat} {w : World} {blk n : Nat} {d : Array Ty} {os : Array Obj} (hB : B ≤ blk) (_hlt : blk < w.heap.size) (_hBw : B ≤ w.heap.size) : Below B w (sortWorldK encY 2 w blk 0 n d os) where
  os := rfl
  tape := rfl
  output := rfl
  size := by
    unfold sortWorldK grow putRowK putRow mapBlock
    simp
  block k hk := by
    unfold sortWorldK grow putRowK putRow mapBlock
    show ((w.heap.modify blk _) ++ os)[k]? = w.heap[k]?
    rw [Array.getElem?_append_left (by simp; omega), Array.getElem?_modify, if_neg (by omega)]
theorem encY_one (x : Ty) : ∀ v ∈ encY x, v.oneCell' = true := by
  intro v hv
  simp [encY, encT] at hv
  rcases hv with rfl | rfl <;> rfl
/-- counts within a book's -/
def okC (c : List (Tx × Int)) : Prop := ∀ p ∈ c, 0 ≤ p.2 ∧ p.2 ≤ 1000000
def toY (c : List (Tx × Int)) (h : okC c) : List Ty := c.attach.map fun p => ⟨p.1, h p.1 p.2⟩
theorem toY_val (c : List (Tx × Int)) (h : okC c) : (toY c h).map (·.1) = c := by
  unfold toY
  rw [List.map_map]
  exact List.attach_map_subtype_val c
theorem toY_len (c : List (Tx × Int)) (h : okC c) : (toY c h).length = c.length := by unfold toY; simp
theorem toY_get (c : List (Tx × Int)) (h : okC c) (k : Nat) (hk : k < c.length) : ((toY c h)[k]'(by rw [toY_len]; exact hk)).1 = c[k] := by
  unfold toY
  simp
theorem tsort_any (B g cap : Nat) (c : List (Tx × Int)) (w : World) (hok : okC c) (hr : w.ownsRow B tTl 2 (.slice (some ⟨g, 0, none⟩) c.length cap) c.length (rowT c)) (nl : c.length ≤ 1048576) :
    Calls Tryz.prog 45 #[.slice (some ⟨g, 0, none⟩) c.length cap, .func (.func 46) #[] #[]] w fun e w' => e = .returned (.tuple #[]) ∧
      (∀ k (hk : k < (srtT c).length), w'.cell? ⟨g, k * 2, none⟩ = some (.string (bs (srtT c)[k].1)) ∧ w'.cell? ⟨g, k * 2 + 1, none⟩ = some (.int .i64 (srtT c)[k].2)) ∧ g < w'.heap.size ∧ ∀ B2, B2 ≤ g → Below B2 w w' := by
  have hlt : g < w.heap.size := (World.ownsRow.lt hr g rfl).2
  have hsz : (toY c hok).toArray.size = c.length := by simp [toY_len]
  have hH : HoldsK encY 2 w g 0 (toY c hok).toArray := by
    intro t ht
    rw [size_flatK, hsz] at ht
    have hk : t / 2 < c.length := by omega
    have hkY : t / 2 < (toY c hok).length := by rw [toY_len]; exact hk
    have e2 : (toY c hok).toArray[t / 2]! = (toY c hok)[t / 2] := by simp [hkY]
    constructor
    · rw [get_flatK _ _ _ _ (by rw [hsz]; omega), Nat.zero_add, e2, hr.cellAt t (by omega)]
      have c1 := rowT_get c _ hk
      have e3 : encY (toY c hok)[t / 2] = encT c[t / 2] := by unfold encY; rw [toY_get]
      rw [e3]
      rcases Nat.mod_two_eq_zero_or_one t with hm | hm
      · rw [hm]
        have : t / 2 * 2 = t := by omega
        rw [this] at c1
        rw [c1.1]; rfl
      · rw [hm]
        have : t / 2 * 2 + 1 = t := by omega
        rw [this] at c1
        rw [c1.2]; rfl
    · rw [Nat.zero_add]; exact hr.frozenAt t
  have eg : ∀ args w, (callFunc 46 args).run Tryz.prog w = .ok (.enter 46 args) w := enters_of Tryz.func46 (by kernel_rfl) rfl
  have hcon := AnyQ.slices_SortFunc Tryz.laySort 2 Tryz.isAgg61 Tryz.sizeOf61 encY (fun _ => rfl) encY_one cfY cfY_swo 46 #[] g 0 cap (toY c hok).toArray w eg (fun _ _ _ _ x y => tclosure_any x y _) hH hlt (by rw [hsz]; omega)
  rw [hsz] at hcon
  refine hcon.mono ?_
  rintro e w' ⟨rfl, d', n, os, hperm, hsort, rfl⟩
  obtain ⟨p1, _, p3⟩ := hperm
  have hs : d'.size = c.length := by rw [p1, hsz]
  have hH2 := holdsK_sortWorldK_c encY 2 w g 0 (toY c hok).toArray d' n os hH hlt p1
  have hd : d'.toList.map (·.1) = srtT c := by
    refine srtT_unique ?_ ?_
    · have e1 : d'.extract 0 c.length = d' := by rw [← hs]; exact Array.extract_size
      have e2 : (toY c hok).toArray.extract 0 c.length = (toY c hok).toArray := by rw [← hsz]; exact Array.extract_size
      rw [e1, e2] at p3
      have := List.Perm.map (·.1) p3
      rwa [toY_val] at this
    · rw [List.pairwise_map, List.pairwise_iff_getElem]
      intro i j hi hj hij
      have hjs : j < c.length := by simpa [hs] using hj
      have := hsort i j (Nat.zero_le _) hij (by simpa using hjs)
      rw [cfY_lt] at this
      have hi2 : i < d'.size := by simpa using hi
      have hj2 : j < d'.size := by simpa using hj
      rw [getElem!_pos d' i hi2, getElem!_pos d' j hj2] at this
      simp only [Array.getElem_toList]
      exact this
  refine ⟨rfl, fun k hk => ?_, ?_, fun B2 hB => below_sortWorldT hB hlt (by omega)⟩
  · have hkc : k < c.length := by rw [srtT_len] at hk; exact hk
    have hkd : k < d'.size := by omega
    have hge : (srtT c)[k] = d'[k].1 := by
      have h1 : (srtT c)[k]? = (d'.toList.map (·.1))[k]? := by rw [hd]
      rw [List.getElem?_eq_getElem hk, List.getElem?_map, List.getElem?_eq_getElem (by simpa using hkd)] at h1
      simp at h1
      exact h1
    rw [hge]
    have e2 : d'[k]! = d'[k] := getElem!_pos d' k hkd
    constructor
    · have := (hH2 (k * 2) (by rw [size_flatK, hs]; omega)).1
      rw [get_flatK _ _ _ _ (by rw [hs]; omega), Nat.zero_add, show k * 2 / 2 = k by omega, show k * 2 % 2 = 0 by omega, e2] at this
      exact this
    · have := (hH2 (k * 2 + 1) (by rw [size_flatK, hs]; omega)).1
      rw [get_flatK _ _ _ _ (by rw [hs]; omega), Nat.zero_add, show (k * 2 + 1) / 2 = k by omega, show (k * 2 + 1) % 2 = 1 by omega, e2] at this
      exact this
  · exact Nat.lt_of_lt_of_le hlt (below_sortWorldT (B := g) (Nat.le_refl _) hlt (by omega)).size
theorem tsort_none (p : Option Addr) (cap : Nat) (fv : Value) (w : World) : Calls Tryz.prog 45 #[.slice p 0 cap, fv] w fun e w' => e = .returned (.tuple #[]) ∧ w = w' :=
  (AnyF.slices_SortFunc_none Tryz.laySort p cap fv w).mono fun _ _ ⟨h1, h2⟩ => ⟨h1, h2.symm⟩
theorem infoTl : (Tryz.prog.info? 61).map (fun i => (i.zero, i.size, i.bytes)) = some (some (.agg #[.string ⟨#[]⟩, .int .i64 0]), 2, 24) := by kernel_rfl
theorem tclone_nil (w : World) : Calls Tryz.prog 48 #[.slice none 0 0] w fun e w' => (∃ v2, e = .returned v2 ∧ w'.ownsRow w.heap.size tTl 2 v2 0 []) ∧ Below w.heap.size w w' := by
  have hn := Lib.run_eql_slice_nil (P := Tryz.prog) w 53 61 none 0 0 0 0 Tryz.underlying53
  go_enter Tryz.func48, Tryz.ntmps48
  go_wp2_with fail
  go_ret
  exact ⟨⟨_, rfl, World.ownsRow_nil ..⟩, Below.refl _ _⟩
set_option maxRecDepth 100000 in
theorem tclone_any (g cap m : Nat) (xs : List Value) (w : World) (hx : xs.length = m * 2) (hone : ∀ u ∈ xs, u.oneCell' = true) (hc : ∀ j u, xs[j]? = some u → w.cell? ⟨g, j, none⟩ = some u) (hg : g < w.heap.size) (hm : m ≤ 1048576) :
    Calls Tryz.prog 48 #[.slice (some ⟨g, 0, none⟩) m cap] w fun e w' => (∃ v2, e = .returned v2 ∧ w'.ownsRow w.heap.size tTl 2 v2 m xs) ∧ Below w.heap.size w w' := by
  obtain ⟨i0, hi, hz0, hz1, hz2⟩ := info_parts infoTl
  have hn := fun wx => Lib.run_eql_slice_nil (P := Tryz.prog) wx 53 61 (some ⟨g, 0, none⟩) m cap 0 0 Tryz.underlying53
  have HNE : Hid (∀ j u, xs[j]? = some u → (w.alloc (.cells #[] tTl)).cell? ((⟨g, 0, none⟩ : Addr).add j) = some u) := by
    intro j u hj
    rw [Addr.add_lit, Nat.zero_add]
    exact (((Below.refl w.heap.size w).alloc (Nat.le_refl _) (.cells #[] tTl)).cell (p := ⟨g, j, none⟩) hg).trans (hc j u hj)
  have OW := Lib.hid (World.ownsRow_lit (w := w) (base := w.heap.size) (e := tTl) (size := 2) #[] 0 (Nat.le_refl _) (by unfold maxLen; omega) rfl)
  have HL := Lib.hid hm
  have b0 := Lib.hid ((Below.refl w.heap.size w).alloc (Nat.le_refl _) (.cells #[] tTl))
  have HLEN := Lib.hid hx
  have HONE := Lib.hid hone
  clear hx hone hc hm
  go_enter Tryz.func48, Tryz.ntmps48
  go_wp2_with (at_builtin; refine wpList_append_own _ rfl _ _ 53 rfl w.heap.size tTl i0 (.agg #[.string ⟨#[]⟩, .int .i64 0]) 2 24 Tryz.underlying53 hi hz0 hz1 hz2 rfl (by decide) _ 0 [] rfl OW.out ⟨g, 0, none⟩ m cap xs rfl HLEN.out HNE.out HONE.out ?_ ?_ ?_ ?_)
  · have := HL.out; unfold maxLen; omega
  · have := HL.out; omega
  intro v2 w2 hown2 hgrow hnil
  try rw [Nat.zero_add, List.nil_append] at hown2
  have O2 := Lib.hid hown2
  have d2 := b0.out.trans (own_belowL OW.out hgrow (by show w.heap.size ≤ (w.heap.push _).size; rw [Array.size_push]; omega))
  clear hown2 hgrow hnil
  go_wp2_with fail
  go_ret
  exact ⟨⟨_, rfl, O2.out⟩, d2⟩
end Go.Proofs.YtfgaiopkclogmaaGreatDoor
