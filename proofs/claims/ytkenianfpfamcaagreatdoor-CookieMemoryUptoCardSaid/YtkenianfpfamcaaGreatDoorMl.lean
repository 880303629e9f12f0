/- A jar's cookies in their order: the sort by number. A jar's cookies in their order. What a jar's map says when a cookie is put in, replaced, let go: plain. -/
import Derived.Test.YtkenianfpfamcaaGreatDoorJarAJ
import Derived.Shelf.SlSortCmp.NoneTotal
import Derived.BigQuiet
import Derived.Deep.Onto
import Derived.Maps.RangeWalk
import Derived.OwnWalk
namespace Go.Proofs.YtkenianfpfamcaaGreatDoor
open Go Go.RowKit Go.Maps Go.WideMaps Go.Sort Go.Shelf
set_option maxHeartbeats 8000000

/-- pointers in a row -/
def Ptrs (w : World) (base : Nat) (v : Value) (bl : List Nat) : Prop := ∃ sp cap, v = .slice sp bl.length cap ∧ (bl = [] ∨ ∃ g, sp = some ⟨g, 0, none⟩ ∧ base ≤ g ∧ g < w.heap.size ∧ ∀ i (h : i < bl.length), w.cell? ⟨g, i, none⟩ = some (ptrV bl[i]))
set_option maxRecDepth 100000 in
theorem cmpnum_any (x y : It) (W : World) (hx : CellsAt W x.blk (cellsK x)) (hy : CellsAt W y.blk (cellsK y)) (nx : x.num ≤ 1099511627776) (ny : y.num ≤ 1099511627776) :
    Calls Tryz.prog 120 #[ptrV x.blk, ptrV y.blk] W fun e w' => e = .returned (.int .i64 ((x.num : Int) - y.num)) ∧ ∃ q os', w' = grow (W.drewN q) os' := by
  have a17 := hx.at 17 _ rfl
  have b17 := hy.at 17 _ rfl
  obtain ⟨a, ha⟩ := name_it x.blk
  obtain ⟨b, hb⟩ := name_it y.blk
  obtain ⟨m, hm⟩ := name_it x.num
  obtain ⟨n, hn⟩ := name_it y.num
  rw [ha.out] at a17 ⊢
  rw [hb.out] at b17 ⊢
  rw [hm.out] at a17 nx ⊢
  rw [hn.out] at b17 ny ⊢
  unfold ptrV
  clear hx hy ha hb hm hn
  have hw : IntKind.i64.wrap ((m : Int) - (n : Int)) = (m : Int) - n := IntWalk.i64_in _ (by omega)
  go_enter Tryz.func120, Tryz.ntmps120
  go_wp2_with fail
  go_quiet (fail)
  go_wp2_with fail
  go_ret
  exact ⟨rfl, _, #[], by rw [grow_empty]⟩
theorem below_sortW {α : Type} [Inhabited α] {enc : α → Value} {B : Nat} {w : World} {blk n : Nat} {d : Array α} {os : Array Obj} (hB : B ≤ blk) : RowKit.Below B w (sortWorld enc w blk 0 n d os) ∨ w.heap.size < B := by
  by_cases h : B ≤ w.heap.size
  · left
    exact {
      os := rfl
      tape := rfl
      output := rfl
      size := by
        unfold sortWorld grow putRow mapBlock
        simp
      block := by
        intro k hk
        unfold sortWorld grow putRow mapBlock
        show ((w.heap.modify blk _) ++ os)[k]? = w.heap[k]?
        rw [Array.getElem?_append_left (by simp; omega), Array.getElem?_modify, if_neg (by omega)] }
  · right; omega
/-- what the sort asks of an element: its cookie lies ahead of the row -/
def Good (w : World) (g : Nat) (x : It) : Prop := CellsAt w x.blk (cellsK x) ∧ x.blk < g ∧ x.num ≤ 1099511627776
theorem good_sort {α : Type} [Inhabited α] {enc : α → Value} {w : World} {g n : Nat} {d : Array α} {os : Array Obj} {x : It} (h : Good w g x) (hg : g < w.heap.size) : CellsAt (sortWorld enc w g 0 n d os) x.blk (cellsK x) := by
  have hb : RowKit.Below g w (sortWorld enc w g 0 n d os) := (below_sortW (Nat.le_refl g)).resolve_right (by omega)
  exact h.1.keeps (S := fun i => g ≤ i) ⟨hb.os, hb.tape, hb.output, hb.size, fun i _ hn => hb.block i (by omega)⟩ (by have := h.2.1; omega)
theorem attach_val {α : Type} {p : α → Prop} (l : List α) (h : ∀ x ∈ l, p x) : (l.attach.map fun x => (⟨x.1, h x.1 x.2⟩ : {x // p x})).map (·.1) = l := by
  rw [List.map_map]
  exact List.attach_map_subtype_val l
theorem jsort_any (base g cap : Nat) (l : List It) (w : World) (hr : w.ownsRow base tPk 1 (.slice (some ⟨g, 0, none⟩) l.length cap) l.length (l.map fun x => ptrV x.blk)) (hc : ∀ x ∈ l, Good w g x) (nl : l.length ≤ 1099511627776) (hne : l ≠ []) :
    Calls Tryz.prog 119 #[.slice (some ⟨g, 0, none⟩) l.length cap, .func (.func 120) #[] #[]] w fun e w' => e = .returned (.tuple #[]) ∧
      (∃ m : List It, m.Perm l ∧ (m.Pairwise fun x y => x.num ≤ y.num) ∧ ∀ i (h : i < m.length), w'.cell? ⟨g, i, none⟩ = some (ptrV m[i].blk)) ∧ g < w'.heap.size ∧ ∀ B, B ≤ g → RowKit.Below B w w' := by
  have hlt : g < w.heap.size := (World.ownsRow.lt hr g rfl).2
  obtain ⟨x0, hx0⟩ : ∃ x, x ∈ l := List.exists_mem_of_ne_nil l hne
  haveI : Inhabited {x : It // Good w g x} := ⟨⟨x0, hc x0 hx0⟩⟩
  obtain ⟨d, hd⟩ : ∃ d : Array {x : It // Good w g x}, d = (l.attach.map fun x => (⟨x.1, hc x.1 x.2⟩ : {x : It // Good w g x})).toArray := ⟨_, rfl⟩
  have hdl : d.toList.map (·.1) = l := by rw [hd]; exact attach_val l hc
  have hsz : d.size = l.length := by rw [← hdl, List.length_map]; rfl
  have hget : ∀ t (h : t < l.length), (d[t]!).1 = l[t] := by
    intro t h
    have h1 : (d.toList.map (·.1))[t]? = l[t]? := by rw [hdl]
    have h2 : t < d.size := by omega
    rw [List.getElem?_map, List.getElem?_eq_getElem h, List.getElem?_eq_getElem (by simpa using h2)] at h1
    rw [getElem!_pos d t h2]
    simpa using h1
  have hH : Holds (fun x : {x : It // Good w g x} => ptrV x.1.blk) w g 0 d := by
    intro t ht
    have ht2 : t < l.length := by omega
    constructor
    · rw [Nat.zero_add, hr.cellAt t (by omega)]
      show _ = some (ptrV (d[t]!).1.blk)
      rw [hget t ht2]
      simp [ht2]
    · rw [Nat.zero_add]; exact hr.frozenAt t
  have eg : ∀ args w, (callFunc 120 args).run Tryz.prog w = .ok (.enter 120 args) w := enters_of Tryz.func120 (by kernel_rfl) rfl
  have hO : SWO (ltOf fun x y : {x : It // Good w g x} => (x.1.num : Int) - y.1.num) := by
    constructor
    · intro x; unfold ltOf; simp
    · intro x y z; unfold ltOf; simp; omega
    · intro x y z; unfold ltOf; simp; omega
  have hcon := Any.slices_SortFunc Tryz.laySort (fun x : {x : It // Good w g x} => ptrV x.1.blk) (fun _ => rfl) (fun x y => (x.1.num : Int) - y.1.num) hO 120 #[] g 0 cap d w eg
    (fun m os dk _ x y => by
      have := cmpnum_any x.1 y.1 (sortWorld (fun x : {x : It // Good w g x} => ptrV x.1.blk) w g 0 m dk os) (good_sort x.2 hlt) (good_sort y.2 hlt) x.2.2.2 y.2.2.2
      exact this) hH hlt (by omega)
  rw [hsz] at hcon
  refine hcon.mono ?_
  rintro e w' ⟨rfl, d', n, os, hperm, hsort, rfl⟩
  obtain ⟨p1, _, p3⟩ := hperm
  have hs : d'.size = l.length := by rw [p1, hsz]
  have hH2 := holds_sortWorld (fun x : {x : It // Good w g x} => ptrV x.1.blk) w g 0 n d d' os hlt hH p1
  refine ⟨rfl, ⟨d'.toList.map (·.1), ?_, ?_, fun i hi => ?_⟩, ?_, fun B hB => (below_sortW hB).resolve_right (by omega)⟩
  · have e1 : d'.extract 0 l.length = d' := by rw [← hs]; exact Array.extract_size
    have e2 : d.extract 0 l.length = d := by rw [← hsz]; exact Array.extract_size
    rw [e1, e2] at p3
    have := List.Perm.map (·.1) p3
    rwa [hdl] at this
  · rw [List.pairwise_map, List.pairwise_iff_getElem]
    intro i j hi hj hij
    have hi2 : i < d'.size := by simpa using hi
    have hj2 : j < d'.size := by simpa using hj
    have := hsort i j (Nat.zero_le _) hij (by omega)
    unfold ltOf at this
    rw [getElem!_pos d' i hi2, getElem!_pos d' j hj2] at this
    simp only [Array.getElem_toList]
    have this : ¬ ((d'[j].1.num : Int) - d'[i].1.num < 0) := of_decide_eq_false this
    omega
  · have hi2 : i < d'.size := by simpa using hi
    have := (hH2 i hi2).1
    rw [Nat.zero_add, getElem!_pos d' i hi2] at this
    rw [this]
    simp
  · exact Nat.lt_of_lt_of_le hlt ((below_sortW (Nat.le_refl g)).resolve_right (by omega)).size
theorem jsort_none (p : Option Addr) (cap : Nat) (fv : Value) (w : World) : Calls Tryz.prog 119 #[.slice p 0 cap, fv] w fun e w' => e = .returned (.tuple #[]) ∧ w = w' :=
  (AnyF.slices_SortFunc_none { Tryz.laySort with } p cap fv w).mono fun _ _ ⟨h1, h2⟩ => ⟨h1, h2.symm⟩
end Go.Proofs.YtkenianfpfamcaaGreatDoor
namespace Go.Proofs.YtkenianfpfamcaaGreatDoor
open Go Go.RowKit Go.Maps Go.WideMaps
set_option maxHeartbeats 8000000

/-- where order stands while it gathers -/
structure OrdB (w wq wr : World) (mb N : Nat) (D : DataW Unit) (l acc : List It) (left : Lit → Bool) (cnt : Nat) (out : Value) : Prop where
  rg : wr.ranges Tryz.prog tKey RJ mb wq.heap.size N D left cnt
  row : wr.ownsRow (wq.heap.size + 1) tPk 1 out acc.length (acc.map fun x => ptrV x.blk)
  nd : acc.Nodup
  sub : ∀ x ∈ acc, x ∈ l
  lf : ∀ x ∈ l, left (keyT x.k.key) = decide (x ∉ acc)
  dn : Below wq.heap.size wq wr
theorem OrdB.len {w wq wr : World} {mb N : Nat} {D : DataW Unit} {l acc : List It} {left : Lit → Bool} {cnt : Nat} {out : Value} (h : OrdB w wq wr mb N D l acc left cnt out) : acc.length ≤ l.length :=
  List.Nodup.length_le_of_subset h.nd (fun x hx => h.sub x hx)
theorem find_key {l : List It} (hn : (l.map fun x => x.k.key).Nodup) {x : It} (hx : x ∈ l) : (l.find? fun y => decide (y.k.key = x.k.key)) = some x := by
  induction l with
  | nil => cases hx
  | cons y l ih =>
    rw [List.map_cons, List.nodup_cons] at hn
    rw [List.find?_cons]
    rcases List.mem_cons.1 hx with rfl | hx
    · simp
    · have hne : ¬ y.k.key = x.k.key := by
        intro e
        exact hn.1 (e ▸ List.mem_map.2 ⟨x, hx, rfl⟩)
      rw [decide_eq_false hne]
      exact ih hn.2 hx
theorem blk_mem {l : List It} (hn : (l.map fun x => x.k.key).Nodup) {x : It} (hx : x ∈ l) : blkOf l x.k.key = x.blk := by
  unfold blkOf
  rw [find_key hn hx]
theorem key_inj {l : List It} (hn : (l.map fun x => x.k.key).Nodup) {x y : It} (hx : x ∈ l) (hy : y ∈ l) (h : x.k.key = y.k.key) : x = y := by
  have h1 := find_key hn hx
  have h2 := find_key hn hy
  rw [h] at h1
  rw [h1] at h2
  injection h2
theorem sameKey_keyT {a b : K3} (ha : FitK a) (hb : FitK b) : (keyT a).sameKey (keyT b) = decide (a = b) := by
  by_cases h : a = b
  · subst h
    rw [decide_eq_true rfl]
    simp [Lit.sameKey, keyT]
  · rw [decide_eq_false h]
    exact sameKey_ne (fun e => h (keyT_inj ha hb e))
/-- a cookie has come and been laid into the row -/
theorem OrdB.step {w wq wr w1 w3 : World} {mb N : Nat} {D : DataW Unit} {l acc : List It} {left : Lit → Bool} {cnt cnt1 : Nat} {out out3 : Value} {x : It} (h : OrdB w wq wr mb N D l acc left cnt out) (hm : mb < wq.heap.size)
    (hx : x ∈ l) (hf : ∀ y ∈ l, FitK y.k.key) (hn : (l.map fun x => x.k.key).Nodup) (hl : left (keyT x.k.key) = true) (hrg : w1.ranges Tryz.prog tKey RJ mb wq.heap.size N D (fun z => left z && !z.sameKey (keyT x.k.key)) cnt1)
    (hg : wr.grownBy w1 (some wq.heap.size)) (hb : Below (wq.heap.size + 1) w1 w3) (hrow : w3.ownsRow (wq.heap.size + 1) tPk 1 out3 (acc.length + 1) ((acc.map fun x => ptrV x.blk) ++ [ptrV x.blk])) :
    OrdB w wq w3 mb N D l (acc ++ [x]) (fun z => left z && !z.sameKey (keyT x.k.key)) cnt1 out3 where
  rg := ranges_kept hrg (hb.block _ (Nat.lt_succ_of_lt hm)) (hb.block _ (Nat.lt_succ_self _))
  row := by rw [List.length_append, List.length_singleton, List.map_append]; exact hrow
  nd := by
    have hm := h.lf x hx
    rw [hl] at hm
    rw [List.nodup_append]
    refine ⟨h.nd, by simp, fun a ha b hb' => ?_⟩
    rw [List.mem_singleton] at hb'
    subst hb'
    intro e; subst e
    exact of_decide_eq_true hm.symm ha
  sub := fun y hy => by
    rw [List.mem_append, List.mem_singleton] at hy
    rcases hy with hy | rfl
    · exact h.sub y hy
    · exact hx
  lf := fun y hy => by
    rw [h.lf y hy, sameKey_keyT (hf y hy) (hf x hx), Bool.eq_iff_iff]
    simp only [Bool.and_eq_true, decide_eq_true_eq, Bool.not_eq_true', decide_eq_false_iff_not, List.mem_append, List.mem_singleton, not_or]
    constructor
    · rintro ⟨h1, h2⟩; exact ⟨h1, fun e => h2 (by rw [e])⟩
    · rintro ⟨h1, h2⟩; exact ⟨h1, fun e => h2 (key_inj hn hy hx e)⟩
  dn := (h.dn.trans ⟨hg.os, hg.tape, hg.output, hg.size, fun i hi => hg.block i (Nat.lt_of_lt_of_le hi h.dn.size) (by intro e; injection e with e; omega)⟩).trans (hb.mono (Nat.le_succ _))
theorem OrdB.done {w wq wr : World} {mb N : Nat} {D : DataW Unit} {l acc : List It} {left : Lit → Bool} {cnt : Nat} {out : Value} (h : OrdB w wq wr mb N D l acc left cnt out) (hl : ∀ kl, left kl = false) (hn : l.Nodup) : acc.Perm l := by
  refine (List.perm_ext_iff_of_nodup h.nd hn).2 fun x => ⟨h.sub x, fun hx => ?_⟩
  have := h.lf x hx
  rw [hl] at this
  simpa using of_decide_eq_false this.symm
theorem nodup_keys {l : List It} (hn : (l.map fun x => x.k.key).Nodup) : l.Nodup := by
  unfold List.Nodup at *
  rw [List.pairwise_map] at hn
  exact hn.imp fun h e => h (by rw [e])
theorem perm_order {m l : List It} (hp : m.Perm l) (hs : m.Pairwise fun x y => x.num ≤ y.num) (hl : l.Pairwise fun x y => x.num < y.num) : m = l := by
  refine List.Perm.eq_of_pairwise (le := fun a b => a.num ≤ b.num) (fun a b ha hb h1 h2 => ?_) hs (hl.imp fun h => Nat.le_of_lt h) hp
  by_cases e : a = b
  · exact e
  · have ha' := hp.mem_iff.1 ha
    rcases List.pairwise_iff_getElem.1 hl with hl'
    obtain ⟨i, hi, rfl⟩ := List.getElem_of_mem ha'
    obtain ⟨j, hj, rfl⟩ := List.getElem_of_mem hb
    rcases Nat.lt_trichotomy i j with h | h | h
    · have := hl' i j hi hj h; omega
    · subst h; exact absurd rfl e
    · have := hl' j i hj hi h; omega
theorem order_nil (w : World) : Calls Tryz.prog 70 #[.pointer none] w fun e w' => (∃ v, e = .returned v ∧ Ptrs w' w.heap.size v []) ∧ Below w.heap.size w w' := by
  go_enter Tryz.func70, Tryz.ntmps70
  go_wp2_with fail
  refine (jsort_none _ _ _ _).mono ?_; rintro e w' ⟨rfl, rfl⟩
  go_wp2_with fail
  go_ret
  exact ⟨⟨_, rfl, none, 0, rfl, Or.inl rfl⟩, Below.refl _ _⟩
theorem infoPk : (Tryz.prog.info? tPk).map (fun i => (i.zero, i.size, i.bytes)) = some (some (.pointer none), 1, 8) := by kernel_rfl
set_option maxRecDepth 100000 in
theorem order_any (w : World) (jb mb most next : Nat) (l : List It) (hJ : JarAt w jb mb most next l) (hn : next ≤ 1099511627776) (hl : l.length ≤ 1099511627776) :
    Calls Tryz.prog 70 #[ptrV jb] w fun e w' => (∃ v, e = .returned v ∧ Ptrs w' w.heap.size v (l.map It.blk)) ∧ Below w.heap.size w w' := by
  have c1 := hJ.jar.at 1 _ rfl
  obtain ⟨D, hown, hsay⟩ := hJ.map
  have OWN := Lib.hid hown
  have SAY := Lib.hid hsay
  have J := Lib.hid hJ
  have HML : Hid (mb < w.heap.size) := hown.lt
  obtain ⟨i0, hi, hz0, hz1, hz2⟩ := info_parts infoPk
  clear hJ hown hsay
  unfold ptrV
  go_enter Tryz.func70, Tryz.ntmps70
  go_wp2_with (first
    | (at_range; refine wpList_range_own _ rfl _ tMp rfl tKey tPk lawK Tryz.underlying118 RJ mb l.length D rfl OWN.out ?_; intro w0 hrg0 hg0 hs0)
    | fail)
  go_frame
  have TB0 : Hid (OrdB w w w0 mb l.length D l [] (Maps.has D) (Maps.size D) (.slice none 0 0)) :=
    ⟨hrg0, World.ownsRow_nil .., by simp, (fun p hp => by cases hp), (fun x hx => by rw [SAY.out.has _ (J.out.fit x hx).2.1, decide_eq_true (by simp)]; exact List.any_eq_true.2 ⟨x, hx, by simp⟩), ⟨hg0.os, hg0.tape, hg0.output, hg0.size, fun i hi => hg0.block i hi (by simp)⟩⟩
  clear hrg0 hg0
  go_loopw [3, 5] (fun out _ wr => ∃ acc left cnt, Hid (OrdB w w wr mb l.length D l acc left cnt out)) (fun _ _ wr => wr.rangeLeft mb w.heap.size)
  case atStart => exact ⟨_, _, _, TB0⟩
  case round =>
    obtain ⟨acc, left, cnt, hB⟩ := hrel
    obtain ⟨ws, hws⟩ : ∃ ws, ws = wr := ⟨wr, rfl⟩
    subst hws
    have HLA := Lib.hid hB.out.len
    obtain ⟨so, co, hout⟩ := row_slice hB.out.row
    subst hout
    go_wp2_with (first
      | (at_next; refine wpList_next_ranges _ rfl _ rfl tKey lawK RJ (fun v : Value => v) (fun v : Value => v) (fun key _ _ => ⟨key, rfl⟩) (fun v _ _ => ⟨v, rfl⟩) mb w.heap.size l.length D left cnt rfl hB.out.rg ?_ ?_)
      | fail)
    · intro hc0 hl0
      have HP := Lib.hid (hB.out.done hl0 (nodup_keys J.out.keys))
      have RW := Lib.hid hB.out.row
      have DN := Lib.hid hB.out.dn
      have GD : Hid (∀ g, w.heap.size ≤ g → ∀ x ∈ acc, Good ws g x) := by
        intro g hg x hx
        have hx2 := hB.out.sub x hx
        have hc := J.out.its x hx2
        exact ⟨hc.next hB.out.dn, Nat.lt_of_lt_of_le hc.lt hg, by have := J.out.lim x hx2; omega⟩
      clear hB hl0 hc0
      rcases RW.out.2 with ⟨hn0, h0⟩ | ⟨g, cap', cur, hn0, hrest⟩
      · injection hn0 with hn0 _ hcap
        subst hn0 hcap
        have hacc : acc = [] := List.eq_nil_of_length_eq_zero h0
        have hlnil : l = [] := by
          have := HP.out.length_eq
          rw [hacc] at this
          exact List.eq_nil_of_length_eq_zero this.symm
        subst hacc hlnil
        simp only [List.length_nil]
        clear HP RW GD
        go_wp2_with fail
        refine (jsort_none _ _ _ _).mono ?_; rintro x w6 ⟨rfl, rfl⟩
        go_wp2_with fail
        go_ret
        exact ⟨⟨_, rfl, none, 0, rfl, Or.inl rfl⟩, DN.out⟩
      · injection hn0 with hn0 hlen hcap
        subst hn0
        subst hcap
        have hgb := (World.ownsRow.lt RW.out g rfl)
        by_cases hne : acc = []
        · have hlnil : l = [] := by
            have := HP.out.length_eq
            rw [hne] at this
            exact List.eq_nil_of_length_eq_zero this.symm
          subst hne hlnil
          simp only [List.length_nil]
          clear HP RW GD hrest
          go_wp2_with fail
          refine (jsort_none _ _ _ _).mono ?_; rintro x w6 ⟨rfl, rfl⟩
          go_wp2_with fail
          go_ret
          exact ⟨⟨_, rfl, some ⟨g, 0, none⟩, co, rfl, Or.inl rfl⟩, DN.out⟩
        have SRT := Lib.hid (jsort_any (w.heap.size + 1) g co acc ws RW.out (GD.out g (by omega)) (by have := HLA.out; omega) hne)
        have HG := Lib.hid hgb
        clear hrest RW GD hgb
        go_wp2_with fail
        refine SRT.out.mono ?_; rintro x w6 ⟨rfl, ⟨m, hm1, hm2, hm3⟩, hg6, hb6⟩
        have hml : m = l := perm_order (hm1.trans HP.out) hm2 J.out.ord
        subst hml
        have PT : Hid (Ptrs w6 w.heap.size (.slice (some ⟨g, 0, none⟩) acc.length co) (m.map It.blk)) := by
          refine ⟨some ⟨g, 0, none⟩, co, by rw [List.length_map, hm1.length_eq], Or.inr ⟨g, rfl, by have := HG.out.1; omega, hg6, fun i h => ?_⟩⟩
          rw [List.length_map] at h
          rw [hm3 i h, List.getElem_map]
        have D6 := Lib.hid (DN.out.trans (hb6 w.heap.size (by have := HG.out.1; omega)))
        clear hm1 hm2 hm3 hg6 hb6 SRT
        go_wp2_with fail
        go_ret
        exact ⟨⟨_, rfl, PT.out⟩, D6.out⟩
    · intro x c kl yd yp w5 cnt1 hkl hleft hRc hat hrg1 hlt1 hg1 hs1 hen
      obtain ⟨it, hit, rfl⟩ := SAY.out.only kl (has_true_of_atKey hat)
      have hy : yd = aL it.blk := by
        rw [← hat (aL (-1)), SAY.out.at_ _ (J.out.fit it hit).2.1, blk_mem J.out.keys hit]
      have hc : c = ptrV it.blk := by
        subst hy
        rcases RJ_inv hRc with ⟨h, _⟩ | ⟨k, h, hv⟩
        · omega
        · have : it.blk = k := by omega
          rw [this]; exact hv
      subst hc
      have hen2 : (Instr.entry (.pointer (some ⟨w.heap.size, 0, none⟩))).run Tryz.prog w5 = .ok (.tuple #[x, .pointer (some ⟨it.blk, 0, none⟩)]) w5 := hen
      have O1 : Hid (w5.ownsRow (w.heap.size + 1) tPk 1 (.slice so acc.length co) acc.length (acc.map fun x => ptrV x.blk)) := row_kept hB.out.row (fun g hg => hg1.block g (World.ownsRow.lt hB.out.row g hg).2 (by have := (World.ownsRow.lt hB.out.row g hg).1; intro e; injection e with e; omega))
      have S5 : Hid (w.heap.size + 1 ≤ w5.heap.size) := by have h1 := hB.out.rg.lt; unfold Hid; omega
      have HRG := Lib.hid hrg1
      have HG1 := Lib.hid hg1
      have HLE := Lib.hid hleft
      have HIT := Lib.hid hit
      clear hat hrg1 hg1 hleft hRc hkl hs1 hen hy hit
      unfold ptrV
      go_wp2_with (at_builtin; refine append1 rfl _ _ tPs rfl (w.heap.size + 1) tPk i0 (.pointer none) 8 Tryz.underlying124 hi hz0 hz1 hz2 rfl O1.out rfl (ptrV it.blk) rfl rfl ?_ ?_ ?_ ?_)
      · have := HLA.out; unfold maxLen; omega
      · have := HLA.out; omega
      · exact S5.out
      intro g6 cap6 w6 hg6 hown6 hb6
      have TB6 := Lib.hid (hB.out.step HML.out HIT.out (fun y hy => (J.out.fit y hy).2.1) J.out.keys HLE.out HRG.out HG1.out hb6 hown6)
      clear hown6 hb6
      go_wp2_with fail
      go_roundw
      case rel => exact ⟨_, _, _, TB6⟩
      case measure => rw [TB6.out.rg.left_eq, hB.out.rg.left_eq]; exact hlt1
end Go.Proofs.YtkenianfpfamcaaGreatDoor
namespace Go.Proofs.YtkenianfpfamcaaGreatDoor
open Go Go.RowKit Go.Maps Go.WideMaps

theorem keyT_ne {a b : K3} (ha : FitK a) (hb : FitK b) (h : a ≠ b) : keyT a ≠ keyT b := fun e => h (keyT_inj ha hb e)
theorem any_key {l : List It} {k : K3} : (l.any fun x => decide (x.k.key = k)) = true ↔ ∃ x ∈ l, x.k.key = k := by
  rw [List.any_eq_true]
  simp
theorem blkOf_append (l : List It) (x : It) (k : K3) (h : ∀ y ∈ l, y.k.key ≠ x.k.key) : blkOf (l ++ [x]) k = if k = x.k.key then (x.blk : Int) else blkOf l k := by
  unfold blkOf
  rw [List.find?_append]
  by_cases e : k = x.k.key
  · subst e
    rw [if_pos rfl]
    have : (l.find? fun y => decide (y.k.key = x.k.key)) = none := List.find?_eq_none.2 fun y hy => by simpa using h y hy
    rw [this]
    simp
  · rw [if_neg e]
    have e2 : ¬ x.k.key = k := fun h => e h.symm
    cases hf : l.find? fun y => decide (y.k.key = k) with
    | none => simp [e2]
    | some y => simp
theorem Says.putNew {D : DataW Unit} {l : List It} {x : It} (h : Says D l) (hx : FitK x.k.key) (hn : ∀ y ∈ l, y.k.key ≠ x.k.key) : Says (D.put (keyT x.k.key) (aL x.blk)) (l ++ [x]) where
  tidy := h.tidy.put (keyTOk _) _
  has k hk := by
    rw [List.any_append]
    by_cases e : k = x.k.key
    · subst e
      rw [has_put_same h.tidy.isMap (keyTOk _)]
      simp
    · rw [has_put_other (keyT_ne hk hx e), h.has k hk]
      have e2 : ¬ x.k.key = k := fun h => e h.symm
      simp [e2]
  at_ k hk := by
    rw [blkOf_append l x k hn]
    by_cases e : k = x.k.key
    · subst e
      rw [atKey_put_same h.tidy.isMap (keyTOk _), if_pos rfl]
    · rw [atKey_put_other (keyT_ne hk hx e), if_neg e, h.at_ k hk]
  size := by
    rw [size_put h.tidy, h.has _ hx]
    have : (l.any fun y => decide (y.k.key = x.k.key)) = false := by
      rw [Bool.eq_false_iff]
      intro e
      obtain ⟨y, hy, e⟩ := any_key.1 e
      exact hn y hy e
    rw [this, h.size]
    (simp; done)
  only kl hkl := by
    by_cases e : kl = keyT x.k.key
    · exact ⟨x, by simp, e⟩
    · rw [has_put_other e] at hkl
      obtain ⟨y, hy, e⟩ := h.only kl hkl
      exact ⟨y, List.mem_append_left _ hy, e⟩
def repl (x : It) (l : List It) : List It := l.map fun y => if y.k.key = x.k.key then x else y
theorem repl_key (x : It) (l : List It) : (repl x l).map (fun y => y.k.key) = l.map fun y => y.k.key := by
  unfold repl
  rw [List.map_map]
  refine List.map_congr_left fun y _ => ?_
  show (if y.k.key = x.k.key then x else y).k.key = _
  split
  · rename_i h; exact h.symm
  · rfl
theorem any_map_key (l : List It) (k : K3) : (l.any fun x => decide (x.k.key = k)) = (l.map fun x => x.k.key).any fun a => decide (a = k) := by
  rw [List.any_map]; rfl
theorem blkOf_repl (l : List It) (x : It) (k : K3) (h : ∃ y ∈ l, y.k.key = x.k.key) : blkOf (repl x l) k = if k = x.k.key then (x.blk : Int) else blkOf l k := by
  unfold blkOf repl
  rw [List.find?_map]
  by_cases e : k = x.k.key
  · subst e
    rw [if_pos rfl]
    have hp : (fun y : It => decide (y.k.key = x.k.key)) ∘ (fun y : It => if y.k.key = x.k.key then x else y) = fun y => decide (y.k.key = x.k.key) := by
      funext y
      show decide ((if y.k.key = x.k.key then x else y).k.key = x.k.key) = _
      split
      · rename_i h; simp [h]
      · rename_i h; simp [h]
    rw [hp]
    cases hf : l.find? fun y => decide (y.k.key = x.k.key) with
    | none =>
      obtain ⟨y, hy, e⟩ := h
      exact absurd (decide_eq_true e) (List.find?_eq_none.1 hf y hy)
    | some y =>
      have hy := List.find?_some hf
      have hy2 : y.k.key = x.k.key := of_decide_eq_true hy
      simp [hy2]
  · rw [if_neg e]
    have e2 : ¬ x.k.key = k := fun h => e h.symm
    have hp : (fun y : It => decide (y.k.key = k)) ∘ (fun y : It => if y.k.key = x.k.key then x else y) = fun y => decide (y.k.key = k) := by
      funext y
      show decide ((if y.k.key = x.k.key then x else y).k.key = k) = _
      split
      · rename_i h; rw [decide_eq_false e2]; symm; exact decide_eq_false (fun h2 => e (h2.symm.trans h))
      · rfl
    rw [hp]
    cases hf : l.find? fun y => decide (y.k.key = k) with
    | none => rfl
    | some y =>
      have hy := List.find?_some hf
      have hy2 : y.k.key = k := of_decide_eq_true hy
      have hy3 : ¬ y.k.key = x.k.key := fun h => e (hy2.symm.trans h)
      simp [hy3]
theorem Says.putOld {D : DataW Unit} {l : List It} {x : It} (h : Says D l) (hx : FitK x.k.key) (hn : ∃ y ∈ l, y.k.key = x.k.key) : Says (D.put (keyT x.k.key) (aL x.blk)) (repl x l) where
  tidy := h.tidy.put (keyTOk _) _
  has k hk := by
    rw [any_map_key, repl_key, ← any_map_key]
    by_cases e : k = x.k.key
    · subst e
      rw [has_put_same h.tidy.isMap (keyTOk _)]
      exact (any_key.2 hn).symm
    · rw [has_put_other (keyT_ne hk hx e), h.has k hk]
  at_ k hk := by
    rw [blkOf_repl l x k hn]
    by_cases e : k = x.k.key
    · subst e
      rw [atKey_put_same h.tidy.isMap (keyTOk _), if_pos rfl]
    · rw [atKey_put_other (keyT_ne hk hx e), if_neg e, h.at_ k hk]
  size := by
    rw [size_put h.tidy, h.has _ hx, any_key.2 hn, h.size]
    rw [if_pos rfl]
    unfold repl
    rw [List.length_map]
  only kl hkl := by
    have mem : ∀ y ∈ l, ∃ z ∈ repl x l, z.k.key = y.k.key := by
      intro y hy
      have : y.k.key ∈ (repl x l).map fun z => z.k.key := by rw [repl_key]; exact List.mem_map.2 ⟨y, hy, rfl⟩
      obtain ⟨z, hz, e⟩ := List.mem_map.1 this
      exact ⟨z, hz, e⟩
    by_cases e : kl = keyT x.k.key
    · obtain ⟨y, hy, e2⟩ := hn
      obtain ⟨z, hz, e3⟩ := mem y hy
      exact ⟨z, hz, by rw [e, e3, e2]⟩
    · rw [has_put_other e] at hkl
      obtain ⟨y, hy, e⟩ := h.only kl hkl
      obtain ⟨z, hz, e3⟩ := mem y hy
      exact ⟨z, hz, by rw [e, e3]⟩
def drop1 (x : It) (l : List It) : List It := l.filter fun y => !decide (y.k.key = x.k.key)
theorem find_drop {l : List It} {x : It} {k : K3} (e : k ≠ x.k.key) : (drop1 x l).find? (fun y => decide (y.k.key = k)) = l.find? fun y => decide (y.k.key = k) := by
  unfold drop1
  induction l with
  | nil => rfl
  | cons y l ih =>
    by_cases h : y.k.key = x.k.key
    · rw [List.filter_cons, if_neg (by simp [h]), ih, List.find?_cons]
      have : ¬ y.k.key = k := fun h2 => e (h2.symm.trans h)
      rw [decide_eq_false this]
    · rw [List.filter_cons, if_pos (by simp [h]), List.find?_cons, List.find?_cons, ih]
theorem find_drop_same {l : List It} {x : It} : (drop1 x l).find? (fun y => decide (y.k.key = x.k.key)) = none := by
  refine List.find?_eq_none.2 fun y hy => ?_
  have := (List.mem_filter.1 hy).2
  simpa using this
theorem blkOf_drop (l : List It) (x : It) (k : K3) : blkOf (drop1 x l) k = if k = x.k.key then -1 else blkOf l k := by
  unfold blkOf
  by_cases e : k = x.k.key
  · subst e
    rw [if_pos rfl, find_drop_same]
  · rw [if_neg e, find_drop e]
theorem Says.drop {D : DataW Unit} {l : List It} {x : It} (h : Says D l) (hx : FitK x.k.key) (hm : x ∈ l) (hn : (l.map fun x => x.k.key).Nodup) (_hf : ∀ y ∈ l, FitK y.k.key) : Says (D.del (keyT x.k.key)) (drop1 x l) where
  tidy := h.tidy.del _
  has k hk := by
    unfold drop1
    rw [List.any_filter]
    by_cases e : k = x.k.key
    · subst e
      rw [has_del_same]
      symm
      rw [Bool.eq_false_iff]
      intro h2
      obtain ⟨y, _, h3⟩ := List.any_eq_true.1 h2
      simp at h3
    · rw [has_del_other (keyT_ne hk hx e), h.has k hk]
      congr 1
      funext y
      by_cases h2 : y.k.key = k
      · have : ¬ k = x.k.key := e
        simp [h2, e]
      · simp [h2]
  at_ k hk := by
    rw [blkOf_drop]
    by_cases e : k = x.k.key
    · subst e
      rw [atKey_del_same, if_pos rfl]
    · rw [atKey_del_other (keyT_ne hk hx e), if_neg e, h.at_ k hk]
  size := by
    have h1 := size_del h.tidy (k := keyT x.k.key)
    rw [h.has _ hx, any_key.2 ⟨x, hm, rfl⟩, h.size] at h1
    have h2 : (drop1 x l).length + 1 = l.length := by
      clear h h1 hx _hf
      unfold drop1
      induction l with
      | nil => cases hm
      | cons y l ih =>
        rw [List.map_cons, List.nodup_cons] at hn
        rcases List.mem_cons.1 hm with rfl | hm
        · have : (l.filter fun y => !decide (y.k.key = x.k.key)) = l := List.filter_eq_self.2 fun y hy => by
            have : ¬ y.k.key = x.k.key := fun e => hn.1 (e ▸ List.mem_map.2 ⟨y, hy, rfl⟩)
            simp [this]
          rw [List.filter_cons, if_neg (by simp), this, List.length_cons]
        · have hne : ¬ y.k.key = x.k.key := fun e => hn.1 (e ▸ List.mem_map.2 ⟨x, hm, rfl⟩)
          rw [List.filter_cons, if_pos (by simp [hne]), List.length_cons, List.length_cons, ih hm hn.2]
    simp at h1
    omega
  only kl hkl := by
    by_cases e : kl = keyT x.k.key
    · subst e; rw [has_del_same] at hkl; cases hkl
    · rw [has_del_other e] at hkl
      obtain ⟨y, hy, e2⟩ := h.only kl hkl
      refine ⟨y, List.mem_filter.2 ⟨hy, ?_⟩, e2⟩
      have : ¬ y.k.key = x.k.key := fun h3 => e (by rw [e2, h3])
      simp [this]
end Go.Proofs.YtkenianfpfamcaaGreatDoor
