/- Cookies in the order in which they are sent: the stable sort by the length of their paths. What a jar sends. All that a jar keeps, as it was set. -/
import Derived.Test.YtkenianfpfamcaaGreatDoorMl
import Derived.Test.YtkenianfpfamcaaGreatDoorSymCJ
import Derived.Test.YtkenianfpfamcaaGreatDoorMm
import Derived.Deep.DeepCutAuto
import Derived.Deep.RegionHeld3
import Derived.Deep.AppendLies
namespace Go.Proofs.YtkenianfpfamcaaGreatDoor
open Go Go.RowKit Go.Maps Go.WideMaps Go.Sort Go.Shelf
set_option maxHeartbeats 8000000

def ltI (a b : It) : Bool := decide (b.k.path.length < a.k.path.length)
theorem insRev_map {α β : Type} (f : α → β) (lt : α → α → Bool) (lt' : β → β → Bool) (h : ∀ x y, lt x y = lt' (f x) (f y)) (k : α) : ∀ r : List α, (insRev lt k r).map f = insRev lt' (f k) (r.map f)
  | [] => rfl
  | x :: r => by
    rw [insRev, List.map_cons, insRev, ← h]
    split
    · rw [List.map_cons, insRev_map f lt lt' h k r]
    · rfl
theorem insAll_map {α β : Type} (f : α → β) (lt : α → α → Bool) (lt' : β → β → Bool) (h : ∀ x y, lt x y = lt' (f x) (f y)) (l : List α) : (insAll lt l).map f = insAll lt' (l.map f) := by
  unfold insAll
  have go : ∀ (l acc : List α), (l.foldl (fun acc k => insRev lt k acc) acc).map f = (l.map f).foldl (fun acc k => insRev lt' k acc) (acc.map f) := by
    intro l
    induction l with
    | nil => intro acc; rfl
    | cons k l ih =>
      intro acc
      rw [List.foldl_cons, ih, insRev_map f lt lt' h, List.map_cons, List.foldl_cons]
  rw [List.map_reverse, go]; rfl
set_option maxRecDepth 100000 in
theorem cmplen_any (x y : It) (W : World) (hx : CellsAt W x.blk (cellsK x)) (hy : CellsAt W y.blk (cellsK y)) (nx : x.k.path.length ≤ 1099511627776) (ny : y.k.path.length ≤ 1099511627776) :
    Calls Tryz.prog 75 #[ptrV x.blk, ptrV y.blk] W fun e w' => e = .returned (.int .i64 ((y.k.path.length : Int) - x.k.path.length)) ∧ ∃ q os', w' = grow (W.drewN q) os' := by
  have a13 := hx.at 13 _ rfl
  have b13 := hy.at 13 _ rfl
  have sx := size_bs x.k.path
  have sy := size_bs y.k.path
  obtain ⟨a, ha⟩ := name_it x.blk
  obtain ⟨b, hb⟩ := name_it y.blk
  obtain ⟨m, hm⟩ := name_it (bs x.k.path)
  obtain ⟨n, hn⟩ := name_it (bs y.k.path)
  rw [ha.out, hm.out] at a13
  rw [hb.out, hn.out] at b13
  rw [hm.out] at sx
  rw [hn.out] at sy
  rw [ha.out, hb.out, ← sx, ← sy]
  rw [← sx] at nx
  rw [← sy] at ny
  unfold ptrV
  clear hx hy ha hb hm hn sx sy
  have hw : IntKind.i64.wrap ((n.size : Int) - (m.size : Int)) = (n.size : Int) - m.size := IntWalk.i64_in _ (by omega)
  go_enter Tryz.func75, Tryz.ntmps75
  go_wp2_with fail
  go_quiet (fail)
  go_wp2_with fail
  go_ret
  exact ⟨rfl, _, #[], by rw [grow_empty]⟩
def GoodP (w : World) (g : Nat) (x : It) : Prop := CellsAt w x.blk (cellsK x) ∧ x.blk < g ∧ x.k.path.length ≤ 1099511627776
theorem goodP_sort {α : Type} [Inhabited α] {enc : α → Value} {w : World} {g n : Nat} {d : Array α} {os : Array Obj} {x : It} (h : GoodP w g x) (hg : g < w.heap.size) : CellsAt (sortWorld enc w g 0 n d os) x.blk (cellsK x) := by
  have hb : RowKit.Below g w (sortWorld enc w g 0 n d os) := (below_sortW (Nat.le_refl g)).resolve_right (by omega)
  exact h.1.keeps (S := fun i => g ≤ i) ⟨hb.os, hb.tape, hb.output, hb.size, fun i _ hn => hb.block i (by omega)⟩ (by have := h.2.1; omega)
set_option maxRecDepth 100000 in
theorem stableCmp_any (base g cap : Nat) (l : List It) (w : World) (hr : w.ownsRow base tPk 1 (.slice (some ⟨g, 0, none⟩) l.length cap) l.length (l.map fun x => ptrV x.blk)) (hc : ∀ x ∈ l, GoodP w g x) (nl : l.length ≤ 1099511627776) (hne : l ≠ []) :
    Calls Tryz.prog 124 #[.slice (some ⟨g, 0, none⟩) l.length cap, .int .i64 l.length, .func (.func 75) #[] #[]] w fun e w' => e = .returned (.tuple #[]) ∧
      (∀ i (h : i < (insAll ltI l).length), w'.cell? ⟨g, i, none⟩ = some (ptrV (insAll ltI l)[i].blk)) ∧ g < w'.heap.size ∧ ∀ B, B ≤ g → RowKit.Below B w w' := by
  have hlt : g < w.heap.size := (World.ownsRow.lt hr g rfl).2
  obtain ⟨x0, hx0⟩ : ∃ x, x ∈ l := List.exists_mem_of_ne_nil l hne
  haveI : Inhabited {x : It // GoodP w g x} := ⟨⟨x0, hc x0 hx0⟩⟩
  obtain ⟨dl, hdl0⟩ : ∃ dl : List {x : It // GoodP w g x}, dl = l.attach.map fun x => (⟨x.1, hc x.1 x.2⟩ : {x : It // GoodP w g x}) := ⟨_, rfl⟩
  have hdl : dl.map (·.1) = l := by rw [hdl0]; exact attach_val l hc
  have hsz : dl.toArray.size = l.length := by rw [← hdl, List.length_map]; simp
  have hdl2 : dl.length = l.length := by rw [← hdl, List.length_map]
  have hget : ∀ t (h : t < l.length), (dl.toArray[t]!).1 = l[t] := by
    intro t h
    have h1 : (dl.map (·.1))[t]? = l[t]? := by rw [hdl]
    have h2 : t < dl.toArray.size := by omega
    rw [List.getElem?_map, List.getElem?_eq_getElem h, List.getElem?_eq_getElem (by omega)] at h1
    rw [getElem!_pos dl.toArray t h2]
    simpa using h1
  have hH : Holds (fun x : {x : It // GoodP w g x} => ptrV x.1.blk) w g 0 dl.toArray := by
    intro t ht
    have ht2 : t < l.length := by omega
    constructor
    · rw [Nat.zero_add, hr.cellAt t (by omega)]
      show _ = some (ptrV (dl.toArray[t]!).1.blk)
      rw [hget t ht2]
      simp [ht2]
    · rw [Nat.zero_add]; exact hr.frozenAt t
  have eg : ∀ args w, (callFunc 75 args).run Tryz.prog w = .ok (.enter 75 args) w := enters_of Tryz.func75 (by kernel_rfl) rfl
  have hst := stableCmp_s (fun x : {x : It // GoodP w g x} => ptrV x.1.blk) (fun x => x.1.k.path.length) (fun x y => (y.1.k.path.length : Int) - x.1.k.path.length) (fun _ _ => rfl) 75 #[] g 0 cap l.length dl.toArray w eg
    (fun m os dk _ x y => by
      have := cmplen_any x.1 y.1 (sortWorld (fun x : {x : It // GoodP w g x} => ptrV x.1.blk) w g 0 m dk os) (goodP_sort x.2 hlt) (goodP_sort y.2 hlt) x.2.2.2 y.2.2.2
      exact this) ⟨fun _ => rfl, hH, hlt⟩ hsz nl dl w hdl2 (SW.start hH)
  have hmap : (insAll (ltV fun x : {x : It // GoodP w g x} => x.1.k.path.length) dl).map (fun x : {x : It // GoodP w g x} => x.1) = insAll ltI l := by
    have e := insAll_map (fun x : {x : It // GoodP w g x} => x.1) (ltV fun x : {x : It // GoodP w g x} => x.1.k.path.length) ltI (fun x y => rfl) dl
    rw [hdl] at e
    exact e
  obtain ⟨ds, hds⟩ := name_it (insAll (ltV fun x : {x : It // GoodP w g x} => x.1.k.path.length) dl)
  rw [hds.out] at hst hmap
  have hdsl : ds.length = l.length := by rw [← hds.out, (insAll_perm _ dl).length_eq, hdl2]
  refine hst.mono ?_
  rintro e w' ⟨rfl, m, os, rfl⟩
  refine ⟨rfl, ?_⟩
  have hH2 := holds_sortWorld (fun x : {x : It // GoodP w g x} => ptrV x.1.blk) w g 0 m dl.toArray ds.toArray os hlt hH (by simp; omega)
  refine ⟨fun i hi => ?_, ?_, fun B hB => (below_sortW hB).resolve_right (by omega)⟩
  · have hi2 : i < ds.length := by rw [← hmap, List.length_map] at hi; exact hi
    have := (hH2 i (by simpa using hi2)).1
    rw [Nat.zero_add, getElem!_pos ds.toArray i (by simpa using hi2)] at this
    rw [this]
    have e : (insAll ltI l)[i] = ds[i].1 := by
      have : (insAll ltI l)[i]? = (ds.map (·.1))[i]? := by rw [hmap]
      rw [List.getElem?_eq_getElem hi, List.getElem?_map, List.getElem?_eq_getElem hi2] at this
      simpa using this
    rw [e]; rfl
  · exact Nat.lt_of_lt_of_le hlt ((below_sortW (Nat.le_refl g)).resolve_right (by omega)).size
theorem stableCmp_none (p : Option Addr) (cap : Nat) (w : World) : Calls Tryz.prog 124 #[.slice p 0 cap, .int .i64 0, .func (.func 75) #[] #[]] w fun e w' => e = .returned (.tuple #[]) ∧ w = w' := by
  have HI := Lib.hid (AnyF.insertionSortCmpFunc_none { Tryz.laySort with } p cap (.func (.func 75) #[] #[]) w)
  go_enter Tryz.func124, Tryz.ntmps124
  go_wp2_with fail
  go_loopw [7, 8] (fun a b wr => a = .int .i64 0 ∧ b = .int .i64 20 ∧ wr = w) (fun _ _ _ => 0)
  case atStart => exact ⟨rfl, rfl, rfl⟩
  case round =>
    obtain ⟨rfl, rfl, rfl⟩ := hrel
    go_wp2_with fail
    refine HI.out.mono ?_; rintro e w1 ⟨rfl, rfl⟩
    go_wp2_with fail
    go_loopw [6, 7, 8, 9] (fun bs _ _ _ wr => bs = .int .i64 20 ∧ wr = w1) (fun _ _ _ _ _ => 0)
    case atStart => exact ⟨rfl, rfl⟩
    case round =>
      obtain ⟨rfl, rfl⟩ := hrel
      go_wp2_with fail
      refine bodyPost_end (results_none rfl _ _ _) rfl ?_
      exact ⟨rfl, rfl⟩
theorem stable_any (base g cap : Nat) (l : List It) (w : World) (hr : w.ownsRow base tPk 1 (.slice (some ⟨g, 0, none⟩) l.length cap) l.length (l.map fun x => ptrV x.blk)) (hc : ∀ x ∈ l, GoodP w g x) (nl : l.length ≤ 1099511627776) (hne : l ≠ []) :
    Calls Tryz.prog 74 #[.slice (some ⟨g, 0, none⟩) l.length cap, .func (.func 75) #[] #[]] w fun e w' => e = .returned (.tuple #[]) ∧
      (∀ i (h : i < (insAll ltI l).length), w'.cell? ⟨g, i, none⟩ = some (ptrV (insAll ltI l)[i].blk)) ∧ g < w'.heap.size ∧ ∀ B, B ≤ g → RowKit.Below B w w' := by
  have H := Lib.hid (stableCmp_any base g cap l w hr hc nl hne)
  obtain ⟨m, hm⟩ := name_it (insAll ltI l)
  rw [hm.out] at H ⊢
  obtain ⟨n, hn⟩ := name_it l.length
  rw [hn.out] at H ⊢
  clear hr hc hm hn
  go_enter Tryz.func74, Tryz.ntmps74
  go_wp2_with fail
  refine H.out.mono ?_; rintro e w1 ⟨rfl, hF⟩
  have F := Lib.hid hF
  clear hF
  go_wp2_with fail
  refine bodyPost_end (results_none rfl _ _ _) rfl ?_
  exact ⟨rfl, F.out⟩
theorem stable_none (p : Option Addr) (cap : Nat) (w : World) : Calls Tryz.prog 74 #[.slice p 0 cap, .func (.func 75) #[] #[]] w fun e w' => e = .returned (.tuple #[]) ∧ w = w' := by
  have H := Lib.hid (stableCmp_none p cap w)
  go_enter Tryz.func74, Tryz.ntmps74
  go_wp2_with fail
  refine H.out.mono ?_; rintro e w1 ⟨rfl, rfl⟩
  go_wp2_with fail
  refine bodyPost_end (results_none rfl _ _ _) rfl ?_
  exact ⟨rfl, rfl⟩
end Go.Proofs.YtkenianfpfamcaaGreatDoor
namespace Go.Proofs.YtkenianfpfamcaaGreatDoor
open Go Go.RowKit Go.Maps Go.WideMaps
set_option maxHeartbeats 8000000

/-- 'append(v, x)' at a step of a region that draws, x a struct of two cells, v of the call's own -/
theorem step_append2 {P : Program} {w : World} {ops : Array Oper} {o : Oper} {a : Act} {K : Act → World → Prop} {Q : Exit → Act → World → Prop} {E : Prop} (hgd : o.guard = none) (s x : Operand) (t : TypeId)
    (ho : o.op = .call { callee := .builtin .append, args := #[s, x], argTypes := #[t, t] })
    (base : Nat) (e : TypeId) (i : TypeInfo) (z : Value) (bytes : Nat) (ht : P.underlying t = some (.slice e)) (hi : P.info? e = some i) (hz : i.zero = some z)
    (hsize : i.size = 2) (hby : i.bytes = bytes) (hzs : z.cells.size = 2)
    {v : Value} {n : Nat} {xs : List Value} (hown : w.ownsRow base e 2 v n xs) (hs : a.eval s = v)
    (u1 u2 : Value) (hu1 : u1.oneCell' = true) (hu2 : u2.oneCell' = true) (hx : a.eval x = .slice (some ⟨w.heap.size, 0, none⟩) 1 1)
    (hn : n + 1 ≤ maxLen) (hbytes : (n + 1) * bytes ≤ 140737488355328) (hbase : base ≤ w.heap.size)
    (h : ∀ g cap w', base ≤ g → w'.ownsRow base e 2 (.slice (some ⟨g, 0, none⟩) (n + 1) cap) (n + 1) (xs ++ [u1, u2]) → Below base w w' → K (a.put o.dst (.slice (some ⟨g, 0, none⟩) (n + 1) cap)) w') :
    if Region.wanted o (yielded ops a.tmps) = true then Oper.wp P o a (w.alloc (.cells #[u1, u2] e)) K Q else E := by
  have hw : base ≤ (w.alloc (.cells #[u1, u2] e)).heap.size := by
    show base ≤ (w.heap.push _).size
    rw [Array.size_push]; omega
  refine step_append_lies (w.alloc (.cells #[u1, u2] e)) hgd s x t ho base e i z 2 bytes ht hi hz hsize hby hzs (by decide) v n xs hs (hown.alloc _) ⟨w.heap.size, 0, none⟩ 1 1 [u1, u2] hx rfl ?_ ?_ (by decide) hn hbytes hw _ rfl ?_
  · intro j y hj
    match j, hj with
    | 0, hj =>
      simp at hj; subst hj
      rw [Addr.add_lit]
      exact World.cell?_alloc_mark w #[u1, u2] e (0, 0) 0
    | 1, hj =>
      simp at hj; subst hj
      rw [Addr.add_lit]
      exact World.cell?_alloc_mark w #[u1, u2] e (0, 0) 1
  · intro y hy
    rcases List.mem_cons.1 hy with rfl | hy
    · exact hu1
    · rw [List.mem_singleton] at hy; subst hy; exact hu2
  · intro g cap w' hown' hgrow _ _
    refine h g cap w' ?_ hown' (((Below.refl _ _).alloc hbase _).trans (own_below (hown.alloc _) hgrow hw))
    exact (World.ownsRow.lt hown' g rfl).1
abbrev tCks : TypeId := 22
theorem infoCk : (Tryz.prog.info? tCk).map (fun i => (i.zero, i.size, i.bytes)) = some (some (.agg #[.string ⟨#[]⟩, .string ⟨#[]⟩]), 2, 32) := by kernel_rfl
def rowC (l : List Ck) : List Value := l.flatMap fun c => [.string (bs c.1), .string (bs c.2)]
theorem rowC_snoc (l : List Ck) (c : Ck) : rowC (l ++ [c]) = rowC l ++ [.string (bs c.1), .string (bs c.2)] := by unfold rowC; simp
/-- cookies in a row of a call's own -/
def CkRow (w : World) (base : Nat) (v : Value) (l : List Ck) : Prop := w.ownsRow base tCk 2 v l.length (rowC l)
def sentI (l : List It) : List Ck := l.map fun x => (x.k.c.name, x.k.c.value)
theorem ptr_cons1 {w : World} {base : Nat} {sp : Option Addr} {bl : List Nat} (h : bl = [] ∨ ∃ g, sp = some ⟨g, 0, none⟩ ∧ base ≤ g ∧ g < w.heap.size ∧ ∀ i (h : i < bl.length), w.cell? ⟨g, i, none⟩ = some (ptrV bl[i])) (hl : 0 < bl.length) :
    ∃ g, sp = some ⟨g, 0, none⟩ ∧ base ≤ g ∧ g < w.heap.size ∧ ∀ i (h : i < bl.length), w.cell? ⟨g, i, none⟩ = some (ptrV bl[i]) := by
  rcases h with h | h
  · rw [h] at hl; cases hl
  · exact h
def hereI (host path : List UInt8) (secure : Bool) (now : Int) (x : It) : Bool := hereC host path secure now x.k
set_option maxRecDepth 100000 in
theorem get_any (w : World) (jb mb most next : Nat) (l : List It) (host path : ByteArray) (secure : Bool) (now : Int) (hJ : JarAt w jb mb most next l) (hn : next ≤ 1099511627776) (hl : l.length ≤ 1048576) (hh : host.size ≤ 1073741824) (hp : path.size ≤ 1073741824) :
    Calls Tryz.prog 27 #[ptrV jb, .string host, .string path, .bool secure, .int .i64 now] w fun e w' => (∃ v, e = .returned v ∧ CkRow w' w.heap.size v (getJ (l.map It.k) (L host) (L path) secure now)) ∧ Below w.heap.size w w' := by
  have ORD := Lib.hid (order_any w jb mb most next l hJ hn (by omega))
  have J := Lib.hid hJ
  have HBL := Lib.hid (fun (t : List UInt8) (ht : t.length ≤ 1073741824) wx => belongs_any host (bs t) wx hh (by rw [size_bs]; exact ht))
  have HUN := Lib.hid (fun (t : List UInt8) (ht : t.length ≤ 1073741824) wx => under_any path (bs t) wx hp (by rw [size_bs]; exact ht))
  simp only [L_bs] at HBL HUN
  obtain ⟨i0, hi, hz0, hz1, hz2⟩ := info_parts infoPk
  obtain ⟨i1, ci, cz0, cz1, cz2⟩ := info_parts infoCk
  clear hJ
  unfold ptrV at ORD ⊢
  go_enter Tryz.func27, Tryz.ntmps27
  go_wp2_with fail
  refine ORD.out.mono ?_; rintro e w1 ⟨⟨v, rfl, sp, cap, rfl, hsp⟩, hb1⟩
  have J1 := Lib.hid (J.out.next_ hb1)
  have HBL1 : Hid (∀ x ∈ l, x.blk < w1.heap.size) := fun x hx => (J1.out.its x hx).lt
  have B1 := Lib.hid hb1
  have GW1 : Hid (w.heap.size ≤ w1.heap.size) := hb1.size
  have JL1 : Hid (jb < w1.heap.size ∧ mb < w1.heap.size) := ⟨J1.out.jar.lt, by obtain ⟨D, h, _⟩ := J1.out.map; exact h.lt⟩
  have HSP := Lib.hid hsp
  rw [List.length_map]
  clear ORD J hsp hb1
  go_wp2_with fail
  have R0 : Hid (w1.ownsRow w1.heap.size tPk 1 (.slice none 0 0) ((l.take 0).filter (hereI (L host) (L path) secure now)).length (((l.take 0).filter (hereI (L host) (L path) secure now)).map fun x => ptrV x.blk)) := World.ownsRow_nil ..
  go_loopw [11, 13, 14, 21] (fun out _ _ i wr => ∃ k : Nat, k ≤ l.length ∧ i = .int .i64 k ∧ Hid (wr.ownsRow w1.heap.size tPk 1 out ((l.take k).filter (hereI (L host) (L path) secure now)).length (((l.take k).filter (hereI (L host) (L path) secure now)).map fun x => ptrV x.blk)) ∧ Hid (Below w1.heap.size w1 wr)) (fun _ _ _ i _ => l.length - (intOf i).toNat)
  case atStart => exact ⟨0, Nat.zero_le _, rfl, R0, Below.refl _ _⟩
  clear R0
  case round =>
    obtain ⟨k, hk, rfl, hR, hB⟩ := hrel
    obtain ⟨wq, hwq⟩ : ∃ wq, wq = wr := ⟨wr, rfl⟩
    subst hwq
    by_cases hlt : k < l.length
    · obtain ⟨g, rfl, hg1, hg2, hg3⟩ := ptr_cons1 HSP.out (by rw [List.length_map]; omega)
      have CG : wq.cell? ⟨g, k, none⟩ = some (.pointer (some ⟨l[k].blk, 0, none⟩)) := by
        rw [hB.out.cell (p := ⟨g, k, none⟩) hg2, hg3 k (by rw [List.length_map]; exact hlt), List.getElem_map]; rfl
      have hmem : l[k] ∈ l := List.getElem_mem hlt
      have CX := Lib.hid ((J1.out.its _ hmem).next hB.out)
      have HF := Lib.hid (J1.out.fit _ hmem)
      have htk : l.take (k + 1) = l.take k ++ [l[k]] := List.take_succ_eq_append_getElem hlt
      have hfl : ((l.take k).filter (hereI (L host) (L path) secure now)).length ≤ k := Nat.le_trans (List.length_filter_le _ _) (by rw [List.length_take]; omega)
      have hft : (l.take (k + 1)).filter (hereI (L host) (L path) secure now) = (l.take k).filter (hereI (L host) (L path) secure now) ++ (if hereI (L host) (L path) secure now l[k] = true then [l[k]] else []) := by
        rw [htk, List.filter_append, List.filter_cons, List.filter_nil]
      obtain ⟨x, hx⟩ := name_it l[k]
      rw [hx.out] at CG CX HF hft
      have HFT := Lib.hid hft
      have HH : Hid (hereI (L host) (L path) secure now x = (((decide (x.k.dom = L host) || (decide (x.k.c.domain ≠ []) && belongsC (L host) x.k.dom)) && (underC (L path) x.k.path && (secure || !x.k.c.secure))) && !x.k.over now)) := rfl
      obtain ⟨acc, hacc⟩ := name_it ((l.take k).filter (hereI (L host) (L path) secure now))
      rw [hacc.out] at hR HFT hfl
      have e12 : wq.cell? ⟨x.blk, 12, none⟩ = some (.string (bs x.k.dom)) := CX.out.at 12 _ rfl
      have e14 : wq.cell? ⟨x.blk, 14, none⟩ = some (.bool (decide (x.k.c.domain ≠ []))) := CX.out.at 14 _ rfl
      have eqd := str_eq (bs x.k.dom) host
      rw [L_bs] at eqd
      have BL := Lib.hid (HBL.out x.k.dom HF.out.2.1.b)
      have UN := Lib.hid (HUN.out x.k.path HF.out.2.1.c)
      obtain ⟨qd, hqd⟩ := name_it (decide (x.k.dom = L host))
      obtain ⟨qt, hqt⟩ := name_it (decide (x.k.c.domain ≠ []))
      obtain ⟨qb, hqb⟩ := name_it (belongsC (L host) x.k.dom)
      obtain ⟨qu, hqu⟩ := name_it (underC (L path) x.k.path)
      obtain ⟨qs, hqs⟩ := name_it x.k.c.secure
      obtain ⟨qo, hqo⟩ := name_it (x.k.over now)
      rw [hqd.out, hqt.out, hqb.out, hqu.out, hqs.out, hqo.out] at HH
      rw [hqd.out] at eqd
      rw [hqt.out] at e14
      rw [hqb.out] at BL
      rw [hqu.out] at UN
      obtain ⟨S, hS⟩ := name_it (bs x.k.dom)
      rw [hS.out] at e12 eqd BL
      clear hqd hqt hqb hqu hft hmem hg3 htk hacc
      go_upto_region 5 with fail
      all_goals (try (exfalso; omega))
      go_cut [14] (fun s wx => s = .bool (qd || (qt && qb)) ∧ Hid (Below wq.heap.size wq wx))
      case first =>
        cases qd with
        | true =>
          go_wp2_with fail
          go_meet
          case rel => exact ⟨rfl, Below.refl _ _⟩
        | false =>
          cases qt with
          | false =>
            go_wp2_with fail
            go_meet
            case rel => exact ⟨rfl, Below.refl _ _⟩
          | true =>
            go_wp2_with (go_at_call 71; refine (BL.out _).mono ?_; rintro e w' ⟨rfl, hbb⟩)
            go_meet
            case rel => exact ⟨rfl, hbb⟩
      case rest =>
        obtain ⟨rfl, hbc⟩ := hcut
        have hxh : Hid ((hereI (L host) (L path) secure now x) = (((qd || (qt && qb)) && (qu && (secure || !qs))) && !qo)) := HH
        obtain ⟨X1, hX1⟩ := name_it (qd || (qt && qb))
        rw [hX1.out] at hxh
        rw [hX1.out]
        have CX4 := CX.out.next hbc.out
        have R4 := Lib.hid (row_kept hR.out (fun g hg => hbc.out.block g (World.ownsRow.lt hR.out g hg).2))
        have B4 := Lib.hid (hB.out.trans (hbc.out.mono hB.out.size))
        have f13 : wc.cell? ⟨x.blk, 13, none⟩ = some (.string (bs x.k.path)) := CX4.at 13 _ rfl
        have f8 : wc.cell? ⟨x.blk, 8, none⟩ = some (.bool x.k.c.secure) := CX4.at 8 _ rfl
        have OV := Lib.hid (over_any x now wc CX4)
        rw [hqo.out] at OV
        rw [hqs.out] at f8
        unfold ptrV at OV
        clear CX4 hbc CX hR hB e12 e14 BL CG hX1 HH hqs hqo eqd
        generalize wc = w4 at R4 B4 f13 f8 OV ⊢
        go_upto_region 6 with fail
        go_cut [73] (fun s wx => s = .bool ((X1 && (qu && (secure || !qs))) && !qo) ∧ wx = w4)
        case first =>
          cases X1 <;> cases qu <;> cases secure <;> cases qs
          all_goals
            go_wp2_with (first | (go_at_call 72; refine (UN.out _).mono ?_; rintro e w' ⟨rfl, rfl⟩) | (go_at_call 73; refine OV.out.mono ?_; rintro e w' ⟨rfl, rfl⟩))
            go_meet
            case rel => exact ⟨val_bool (by simp), rfl⟩
        case rest =>
          obtain ⟨rfl, hwc⟩ := hcut
          rw [hwc]
          clear hwc
          rw [← hxh.out]
          cases hhere : hereI (L host) (L path) secure now x with
          | false =>
            rw [hhere] at HFT
            have HT : Hid ((l.take (k + 1)).filter (hereI (L host) (L path) secure now) = acc) := by rw [HFT.out, if_neg (by decide), List.append_nil]; rfl
            go_wp2_with fail
            go_roundw
            case rel => exact ⟨k + 1, by omega, by go_num, by rw [HT.out]; exact R4, B4⟩
            case measure => simp [intOf]; omega
          | true =>
            rw [hhere] at HFT
            have HT : Hid ((l.take (k + 1)).filter (hereI (L host) (L path) secure now) = acc ++ [x]) := by rw [HFT.out, if_pos rfl]; rfl
            obtain ⟨so, co, hout⟩ := row_slice R4.out
            subst hout
            go_wp2_with (at_builtin; refine append1 rfl _ _ tPs rfl w1.heap.size tPk i0 (.pointer none) 8 Tryz.underlying124 hi hz0 hz1 hz2 rfl R4.out rfl (ptrV x.blk) rfl rfl ?_ ?_ ?_ ?_)
            · unfold maxLen; omega
            · omega
            · exact B4.out.size
            intro g6 cap6 w6 hg6 hown6 hb6
            have R6 : Hid (w6.ownsRow w1.heap.size tPk 1 (.slice (some ⟨g6, 0, none⟩) (acc.length + 1) cap6) ((acc ++ [x]).length) ((acc ++ [x]).map fun x => ptrV x.blk)) := by
              rw [List.length_append, List.length_singleton, List.map_append]; exact hown6
            have B6 := Lib.hid (B4.out.trans hb6)
            clear hown6 hb6
            go_wp2_with fail
            go_roundw
            case rel => exact ⟨k + 1, by omega, by go_num, by rw [HT.out]; exact R6, B6⟩
            case measure => simp [intOf]; omega
    · obtain rfl : k = l.length := by omega
      rw [List.take_length] at hR
      obtain ⟨acc, hacc⟩ := name_it (l.filter (hereI (L host) (L path) secure now))
      rw [hacc.out] at hR
      have hal : acc.length ≤ 1048576 := by
        rw [← hacc.out]
        exact Nat.le_trans (List.length_filter_le _ _) hl
      have hsub : ∀ x ∈ acc, x ∈ l := by
        intro x hx
        rw [← hacc.out] at hx
        exact (List.mem_filter.1 hx).1
      have RES : Hid (sentI (insAll ltI acc) = getJ (l.map It.k) (L host) (L path) secure now) := by
        unfold Hid sentI getJ
        rw [List.filter_map, ← insAll_map It.k ltI ltK (fun x y => rfl), List.map_map, ← hacc.out]
        rfl
      have SM : Hid (∀ x ∈ insAll ltI acc, x ∈ l) := fun x hx => hsub x ((insAll_perm ltI acc).mem_iff.1 hx)
      have SL : Hid ((insAll ltI acc).length = acc.length) := (insAll_perm ltI acc).length_eq
      have JQ := Lib.hid (J1.out.next_ hB.out)
      have BQ := Lib.hid (B1.out.trans (hB.out.mono B1.out.size))
      have GP : Hid (∀ g, w1.heap.size ≤ g → ∀ x ∈ acc, GoodP wq g x) := by
        intro g hg x hx
        have hc := J1.out.its x (hsub x hx)
        exact ⟨hc.next hB.out, Nat.lt_of_lt_of_le hc.lt hg, by have := (J1.out.fit x (hsub x hx)).2.1.c; have h2 : x.k.key.2.2 = x.k.path := rfl; rw [h2] at this; omega⟩
      obtain ⟨so, co, hout⟩ := row_slice hR.out
      subst hout
      clear hacc hsub J1 B1 HSP hB HBL HUN
      obtain ⟨srt, hsrt⟩ := name_it (insAll ltI acc)
      rw [hsrt.out] at RES SM SL
      go_upto_region 9 with fail
      all_goals (try (exfalso; omega))
      go_cut [] (fun wx => Hid (srt = [] ∨ ∃ g, so = some ⟨g, 0, none⟩ ∧ g < wx.heap.size ∧ ∀ i (h : i < srt.length), wx.cell? ⟨g, i, none⟩ = some (ptrV srt[i].blk)) ∧ Hid (Below w1.heap.size wq wx))
      case first =>
        by_cases hne : acc = []
        · have hs0 : srt = [] := List.eq_nil_of_length_eq_zero (by rw [SL.out, hne]; rfl)
          have h00 : acc.length = 0 := by rw [hne]; rfl
          have STB := Lib.hid (stable_none so co wq)
          rw [← h00] at STB
          have HS0 := Lib.hid hs0
          clear h00 hne hs0
          go_wp2_with fail
          refine STB.out.mono ?_; rintro e w' ⟨rfl, rfl⟩
          go_wp2_with fail
          go_meet
          case rel => exact ⟨Or.inl HS0.out, Below.refl _ _⟩
        · obtain ⟨g, rfl⟩ : ∃ g, so = some ⟨g, 0, none⟩ := by
            rcases hR.out.2 with ⟨hn0, h0⟩ | ⟨g, cap', cur, hn0, hrest⟩
            · exact absurd (List.eq_nil_of_length_eq_zero h0) hne
            · injection hn0 with hn0 _ _
              exact ⟨g, hn0⟩
          have hgb := World.ownsRow.lt hR.out g rfl
          have STB := Lib.hid (stable_any w1.heap.size g co acc wq hR.out (GP.out g hgb.1) (by omega) hne)
          rw [hsrt.out] at STB
          have HGB := Lib.hid hgb
          clear hgb
          go_wp2_with fail
          refine STB.out.mono ?_; rintro e w' ⟨rfl, hf1, hf2, hf3⟩
          have F1 := Lib.hid hf1
          have F2 := Lib.hid hf2
          have F3 := Lib.hid (hf3 w1.heap.size HGB.out.1)
          clear hf1 hf2 hf3
          go_wp2_with fail
          go_meet
          case rel => exact ⟨Or.inr ⟨g, rfl, F2.out, F1.out⟩, F3.out⟩
      case rest =>
        obtain ⟨hpt, hbw⟩ := hcut
        have J5 := Lib.hid (JQ.out.keeps (S := fun i => w1.heap.size ≤ i) ⟨hbw.out.os, hbw.out.tape, hbw.out.output, hbw.out.size, fun i _ hni => hbw.out.block i (by omega)⟩ (by have := JL1.out.1; omega) (by have := JL1.out.2; omega) (fun x hx => by have := HBL1.out x hx; omega))
        have D5 := Lib.hid (BQ.out.trans (hbw.out.mono (B := w1.heap.size) (B' := w.heap.size) (by have := GW1.out; omega)))
        have PT5 := hpt
        clear hpt hbw hR GP JQ BQ
        generalize wc = w5 at J5 D5 PT5 ⊢
        rw [← SL.out]
        go_wp2_with fail
        have Q0 : Hid (w5.ownsRow w5.heap.size tCk 2 (.slice none 0 0) (sentI (srt.take 0)).length (rowC (sentI (srt.take 0)))) := World.ownsRow_nil ..
        go_loopw [15, 17, 83] (fun out _ i wr => ∃ k : Nat, k ≤ srt.length ∧ i = .int .i64 k ∧ Hid (wr.ownsRow w5.heap.size tCk 2 out (sentI (srt.take k)).length (rowC (sentI (srt.take k)))) ∧ Hid (Below w5.heap.size w5 wr)) (fun _ _ i _ => srt.length - (intOf i).toNat)
        case atStart => exact ⟨0, Nat.zero_le _, rfl, Q0, Below.refl _ _⟩
        clear Q0
        case round =>
          obtain ⟨k, hk, rfl, hQ, hB⟩ := hrel
          obtain ⟨wq, hwq⟩ : ∃ wq, wq = wr := ⟨wr, rfl⟩
          subst hwq
          by_cases hlt : k < srt.length
          · obtain ⟨g, rfl, hg2, hg3⟩ : ∃ g, so = some ⟨g, 0, none⟩ ∧ g < w5.heap.size ∧ ∀ i (h : i < srt.length), w5.cell? ⟨g, i, none⟩ = some (ptrV srt[i].blk) := by
              rcases PT5.out with h | h
              · rw [h] at hlt; cases hlt
              · exact h
            have CG : wq.cell? ⟨g, k, none⟩ = some (.pointer (some ⟨srt[k].blk, 0, none⟩)) := by
              rw [hB.out.cell (p := ⟨g, k, none⟩) hg2, hg3 k hlt]; rfl
            have hmem : srt[k] ∈ l := SM.out _ (List.getElem_mem hlt)
            have CX := Lib.hid ((J5.out.its _ hmem).next hB.out)
            have htk : srt.take (k + 1) = srt.take k ++ [srt[k]] := List.take_succ_eq_append_getElem hlt
            have hsk : sentI (srt.take (k + 1)) = sentI (srt.take k) ++ [(srt[k].k.c.name, srt[k].k.c.value)] := by rw [htk]; unfold sentI; rw [List.map_append]; rfl
            have hlk : (sentI (srt.take k)).length = k := by unfold sentI; rw [List.length_map, List.length_take]; omega
            have HX5 := Lib.hid (J5.out.its _ hmem).lt
            obtain ⟨x, hx⟩ := name_it srt[k]
            rw [hx.out] at CG CX hsk HX5
            have e0 : wq.cell? ⟨x.blk, 0, none⟩ = some (.string (bs x.k.c.name)) := CX.out.at 0 _ rfl
            have e1 : wq.cell? ⟨x.blk, 1, none⟩ = some (.string (bs x.k.c.value)) := CX.out.at 1 _ rfl
            have HSK := Lib.hid hsk
            have HLK := Lib.hid hlk
            obtain ⟨acc2, hacc2⟩ := name_it (sentI (srt.take k))
            rw [hacc2.out] at hQ HSK HLK
            have hk20 : k < 1048576 := by have := SL.out; omega
            have bd := (Below.refl wq.heap.size wq).drew
            have QD := Lib.hid (row_kept hQ.out (fun g hg => bd.block g (World.ownsRow.lt hQ.out g hg).2))
            have BD := Lib.hid (hB.out.trans (bd.mono hB.out.size))
            have hBd := BD.out.size
            obtain ⟨so2, co2, hout2⟩ := row_slice QD.out
            subst hout2
            have CXD := Lib.hid (CX.out.next bd)
            clear hmem hg3 htk hsk hacc2 hx bd CX hlk
            go_wp2_with fail
            all_goals (try (exfalso; omega))
            go_region_held3 (fun W => W.cell? ⟨x.blk, 0, none⟩ = some (.string (bs x.k.c.name)) ∧ W.cell? ⟨x.blk, 1, none⟩ = some (.string (bs x.k.c.value)))
              (first | go_keep | exact ⟨(hb7.cell (p := ⟨x.blk, 0, none⟩) HX5.out).trans (CXD.out.at 0 _ rfl), (hb7.cell (p := ⟨x.blk, 1, none⟩) HX5.out).trans (CXD.out.at 1 _ rfl)⟩)
              ((refine step_append2 (by rfl) _ _ tCks (by rfl) w5.heap.size tCk i1 (.agg #[.string ⟨#[]⟩, .string ⟨#[]⟩]) 32 Tryz.underlying22 ci cz0 cz1 cz2 rfl QD.out (by rfl) (.string (bs x.k.c.name)) (.string (bs x.k.c.value)) rfl rfl (by rfl) (by have := HLK.out; unfold maxLen; omega) (by have := HLK.out; omega) hBd ?_; intro g7 cap7 w7 hg7 hown7 hb7))
            have Q7 : Hid (w7.ownsRow w5.heap.size tCk 2 (.slice (some ⟨g7, 0, none⟩) (acc2.length + 1) cap7) (sentI (srt.take (k + 1))).length (rowC (sentI (srt.take (k + 1))))) := by
              rw [HSK.out, List.length_append, List.length_singleton, rowC_snoc]; exact hown7
            have B7 := Lib.hid (BD.out.trans hb7)
            clear hown7 hb7
            go_wp2_with fail
            go_roundw
            case rel => exact ⟨k + 1, by omega, by go_num, Q7, B7⟩
            case measure => simp [intOf]; omega
          · obtain rfl : k = srt.length := by omega
            rw [List.take_length, RES.out] at hQ
            have D9 := Lib.hid (D5.out.trans (hB.out.mono D5.out.size))
            have Q9 := Lib.hid (World.ownsRow.mono hQ.out D5.out.size)
            clear hQ hB
            go_wp2_with fail
            all_goals (try (exfalso; omega))
            go_ret
            exact ⟨⟨_, rfl, Q9.out⟩, D9.out⟩
end Go.Proofs.YtkenianfpfamcaaGreatDoor
namespace Go.Proofs.YtkenianfpfamcaaGreatDoor
open Go Go.RowKit
set_option maxHeartbeats 4000000

theorem infoS : (Tryz.prog.info? tS).map (fun i => (i.zero, i.size, i.bytes)) = some (some (.agg #[.string ⟨#[]⟩, .string ⟨#[]⟩, .string ⟨#[]⟩, .string ⟨#[]⟩, .int .i64 0, .bool false, .int .i64 0, .bool false, .bool false, .bool false, .int .i64 0]), 11, 104) := by kernel_rfl
abbrev tSs : TypeId := 68
def rowS (l : List SetC) : List Value := l.flatMap cellsS
theorem rowS_snoc (l : List SetC) (c : SetC) : rowS (l ++ [c]) = rowS l ++ cellsS c := by unfold rowS; simp
def SetRow (w : World) (base : Nat) (v : Value) (l : List SetC) : Prop := w.ownsRow base tS 11 v l.length (rowS l)
def allI (l : List It) : List SetC := l.map fun x => { x.k.c with path := x.k.path }
theorem allI_k (l : List It) : allI l = allJ (l.map It.k) := by unfold allI allJ; rw [List.map_map]; rfl
theorem cellsS_one (c : SetC) : ∀ u ∈ cellsS c, u.oneCell' = true := by
  intro u hu
  unfold cellsS at hu
  simp only [List.mem_cons, List.not_mem_nil, or_false] at hu
  rcases hu with rfl | rfl | rfl | rfl | rfl | rfl | rfl | rfl | rfl | rfl | rfl <;> rfl
/-- 'append(v, x)', x a struct, v of the call's own -/
theorem appendS {P : Program} {w : World} {ops : Array Oper} {rest : List Oper} {o : Oper} {a : Act} {Q : Exit → Act → World → Prop} (hgd : o.guard = none) (s x : Operand) (t : TypeId)
    (ho : o.op = .call { callee := .builtin .append, args := #[s, x], argTypes := #[t, t] })
    (base : Nat) (e : TypeId) (i : TypeInfo) (z : Value) (n bytes : Nat) (ht : P.underlying t = some (.slice e)) (hi : P.info? e = some i) (hz : i.zero = some z)
    (hsize : i.size = n) (hby : i.bytes = bytes) (hzs : z.cells.size = n) (hn0 : 0 < n)
    {v : Value} {m : Nat} {xs : List Value} (hown : w.ownsRow base e n v m xs) (hs : a.eval s = v)
    (us : List Value) (hul : us.length = n) (hu : ∀ u ∈ us, u.oneCell' = true) (hx : a.eval x = .slice (some ⟨w.heap.size, 0, none⟩) 1 1)
    (hn : m + 1 ≤ maxLen) (hbytes : (m + 1) * bytes ≤ 140737488355328) (hbase : base ≤ w.heap.size)
    (h : ∀ g cap w', base ≤ g → w'.ownsRow base e n (.slice (some ⟨g, 0, none⟩) (m + 1) cap) (m + 1) (xs ++ us) → Below base w w' → wpList P ops Q rest (a.put o.dst (.slice (some ⟨g, 0, none⟩) (m + 1) cap)) w') :
    wpList P ops Q (o :: rest) a (w.alloc (.cells us.toArray e)) := by
  have hw : base ≤ (w.alloc (.cells us.toArray e)).heap.size := by
    show base ≤ (w.heap.push _).size
    rw [Array.size_push]; omega
  refine wpList_append_own (w.alloc (.cells us.toArray e)) hgd s x t ho base e i z n bytes ht hi hz hsize hby hzs hn0 v m xs hs (hown.alloc _) ⟨w.heap.size, 0, none⟩ 1 1 us hx (by rw [hul, Nat.one_mul]) ?_ hu hn hbytes hw ?_
  · intro j y hj
    rw [Addr.add_lit]
    have := (CellsAt.first w us e).at j y hj
    simpa using this
  · intro v' w' hown' hgrow _
    rcases hown'.2 with ⟨_, h0⟩ | ⟨g, cap, cur, rfl, hg, _⟩
    · omega
    · exact h g cap w' hg hown' (((Below.refl _ _).alloc hbase _).trans (own_below (hown.alloc _) hgrow hw))
set_option maxRecDepth 100000 in
theorem all_any (w : World) (jb mb most next : Nat) (l : List It) (hJ : JarAt w jb mb most next l) (hn : next ≤ 1099511627776) (hl : l.length ≤ 1048576) :
    Calls Tryz.prog 28 #[ptrV jb] w fun e w' => (∃ v, e = .returned v ∧ SetRow w' w.heap.size v (allI l)) ∧ Below w.heap.size w w' := by
  have ORD := Lib.hid (order_any w jb mb most next l hJ hn (by omega))
  have J := Lib.hid hJ
  obtain ⟨i1, ci, cz0, cz1, cz2⟩ := info_parts infoS
  clear hJ
  unfold ptrV at ORD ⊢
  go_enter Tryz.func28, Tryz.ntmps28
  go_wp2_with fail
  refine ORD.out.mono ?_; rintro e w1 ⟨⟨v, rfl, sp, cap, rfl, hsp⟩, hb1⟩
  have J1 := Lib.hid (J.out.next_ hb1)
  have B1 := Lib.hid hb1
  have GW1 : Hid (w.heap.size ≤ w1.heap.size) := hb1.size
  have HSP := Lib.hid hsp
  rw [List.length_map]
  clear ORD J hsp hb1
  go_wp2_with fail
  have R0 : Hid (w1.ownsRow w1.heap.size tS 11 (.slice none 0 0) (allI (l.take 0)).length (rowS (allI (l.take 0)))) := World.ownsRow_nil ..
  go_loopw [3, 5, 9] (fun out _ i wr => ∃ k : Nat, k ≤ l.length ∧ i = .int .i64 k ∧ Hid (wr.ownsRow w1.heap.size tS 11 out (allI (l.take k)).length (rowS (allI (l.take k)))) ∧ Hid (Below w1.heap.size w1 wr)) (fun _ _ i _ => l.length - (intOf i).toNat)
  case atStart => exact ⟨0, Nat.zero_le _, rfl, R0, Below.refl _ _⟩
  clear R0
  case round =>
    obtain ⟨k, hk, rfl, hR, hB⟩ := hrel
    obtain ⟨wq, hwq⟩ : ∃ wq, wq = wr := ⟨wr, rfl⟩
    subst hwq
    by_cases hlt : k < l.length
    · obtain ⟨g, rfl, hg1, hg2, hg3⟩ := ptr_cons1 HSP.out (by rw [List.length_map]; omega)
      have CG : wq.cell? ⟨g, k, none⟩ = some (.pointer (some ⟨l[k].blk, 0, none⟩)) := by
        rw [hB.out.cell (p := ⟨g, k, none⟩) hg2, hg3 k (by rw [List.length_map]; exact hlt), List.getElem_map]; rfl
      have hmem : l[k] ∈ l := List.getElem_mem hlt
      have CX := Lib.hid ((J1.out.its _ hmem).next hB.out)
      have htk : allI (l.take (k + 1)) = allI (l.take k) ++ [{ l[k].k.c with path := l[k].k.path }] := by
        rw [List.take_succ_eq_append_getElem hlt]; unfold allI; rw [List.map_append]; rfl
      have HLK : Hid ((allI (l.take k)).length = k) := by unfold Hid allI; rw [List.length_map, List.length_take]; omega
      obtain ⟨x, hx⟩ := name_it l[k]
      rw [hx.out] at CG CX htk
      have HSK := Lib.hid htk
      obtain ⟨acc, hacc⟩ := name_it (allI (l.take k))
      rw [hacc.out] at hR HSK HLK
      obtain ⟨so2, co2, hout2⟩ := row_slice hR.out
      subst hout2
      obtain ⟨c, hc⟩ := name_it ({ x.k.c with path := x.k.path } : SetC)
      have CX2 : Hid (∀ i v, (cellsS c)[i]? = some v → wq.cell? ⟨x.blk, i, none⟩ = some v) := fun i v h => CX.out.at i v (by
        unfold cellsK
        rw [hc.out, List.getElem?_append_left (List.getElem?_eq_some_iff.1 h).1]; exact h)
      rw [hc.out] at HSK
      clear CX hc hx hmem hg3 htk hacc
      have z0 : wq.cell? ⟨x.blk, 0, none⟩ = some (.string (bs c.name)) := CX2.out 0 _ rfl
      have z1 : wq.cell? ⟨x.blk, 1, none⟩ = some (.string (bs c.value)) := CX2.out 1 _ rfl
      have z2 : wq.cell? ⟨x.blk, 2, none⟩ = some (.string (bs c.path)) := CX2.out 2 _ rfl
      have z3 : wq.cell? ⟨x.blk, 3, none⟩ = some (.string (bs c.domain)) := CX2.out 3 _ rfl
      have z4 : wq.cell? ⟨x.blk, 4, none⟩ = some (.int .i64 c.maxAge) := CX2.out 4 _ rfl
      have z5 : wq.cell? ⟨x.blk, 5, none⟩ = some (.bool c.hasMax) := CX2.out 5 _ rfl
      have z6 : wq.cell? ⟨x.blk, 6, none⟩ = some (.int .i64 c.expires) := CX2.out 6 _ rfl
      have z7 : wq.cell? ⟨x.blk, 7, none⟩ = some (.bool c.hasExp) := CX2.out 7 _ rfl
      have z8 : wq.cell? ⟨x.blk, 8, none⟩ = some (.bool c.secure) := CX2.out 8 _ rfl
      have z9 : wq.cell? ⟨x.blk, 9, none⟩ = some (.bool c.http) := CX2.out 9 _ rfl
      have z10 : wq.cell? ⟨x.blk, 10, none⟩ = some (.int .i64 c.same) := CX2.out 10 _ rfl
      have hBd : w1.heap.size ≤ wq.heap.size := hB.out.size
      go_wp2_with (at_builtin; refine appendS (by rfl) _ _ tSs (by rfl) w1.heap.size tS i1 (.agg #[.string ⟨#[]⟩, .string ⟨#[]⟩, .string ⟨#[]⟩, .string ⟨#[]⟩, .int .i64 0, .bool false, .int .i64 0, .bool false, .bool false, .bool false, .int .i64 0]) 11 104 Tryz.underlying68 ci cz0 cz1 cz2 rfl (by decide) hR.out (by rfl) (cellsS c) rfl (cellsS_one c) (by rfl) (by have := HLK.out; unfold maxLen; omega) (by have := HLK.out; omega) hBd ?_)
      all_goals (try (exfalso; omega))
      intro g7 cap7 w7 hg7 hown7 hb7
      have Q7 : Hid (w7.ownsRow w1.heap.size tS 11 (.slice (some ⟨g7, 0, none⟩) (acc.length + 1) cap7) (allI (l.take (k + 1))).length (rowS (allI (l.take (k + 1))))) := by
        rw [HSK.out, List.length_append, List.length_singleton, rowS_snoc]; exact hown7
      have B7 := Lib.hid (hB.out.trans hb7)
      clear hown7 hb7
      go_wp2_with fail
      go_roundw
      case rel => exact ⟨k + 1, by omega, by go_num, Q7, B7⟩
      case measure => simp [intOf]; omega
    · obtain rfl : k = l.length := by omega
      rw [List.take_length] at hR
      have R9 : Hid (∀ v n xs, wq.ownsRow w1.heap.size tS 11 v n xs → wq.ownsRow w.heap.size tS 11 v n xs) := fun v n xs h => World.ownsRow.mono h GW1.out
      go_wp2_with fail
      all_goals (try (exfalso; omega))
      go_ret
      exact ⟨⟨_, rfl, R9.out _ _ _ hR.out⟩, B1.out.trans (hB.out.mono GW1.out)⟩
end Go.Proofs.YtkenianfpfamcaaGreatDoor
