/- A jar in memory: its block, its map, its cookies. -/
import Derived.Test.YtkenianfpfamcaaGreatDoorCookWJ
import Derived.Test.YtkenianfpfamcaaGreatDoorMk
import Derived.Test.YtkenianfpfamcaaGreatDoorSortLay
import Derived.DeepKeys4
import Derived.ChangeKeys
namespace Go.Proofs.YtkenianfpfamcaaGreatDoor
open Go Go.RowKit Go.Maps Go.WideMaps
set_option maxHeartbeats 4000000

abbrev tKey : TypeId := 115
abbrev tPk : TypeId := 117
abbrev tMp : TypeId := 118
abbrev tJar : TypeId := 120
abbrev tKept : TypeId := 122
abbrev tPs : TypeId := 124
abbrev K3 := List UInt8 × List UInt8 × List UInt8
def keyV (k : K3) : Value := .agg #[.string (bs k.1), .string (bs k.2.1), .string (bs k.2.2)]
def litsK (k : K3) : List Lit := [.string k.1, .string k.2.1, .string k.2.2]
def keyT (k : K3) : Lit := .string (keyBytes (litsK k))
theorem keyTOk (k : K3) : WideAt.IsKeyLit (keyT k) := trivial
theorem undKey : Tryz.prog.underlying tKey = some (.array 3 9) := Tryz.underlying115
theorem laidOut : laidOutB Tryz.prog = true := by kernel_rfl
theorem rowKey : tKey < Tryz.prog.types.size := of_decide_eq_true (by kernel_rfl)
theorem wideKey : (match Tryz.prog.underlying tKey with | some (.array _ _) | some (.struct _) => true | _ => false) = true := by rw [undKey]
set_option maxRecDepth 100000 in
theorem lawK : Keyed Tryz.prog tKey := Keyed.of_law (deep_law_laid laidOut (m := 2) (by omega) rowKey (by kernel_rfl) wideKey)
theorem cellsKey : Tryz.prog.cellsOf tKey = 3 := by kernel_rfl
theorem cellsStr : Tryz.prog.cellsOf 9 = 1 := by kernel_rfl
theorem keyTypeK : Tryz.prog.keyType tKey = true := by kernel_rfl
structure FitK (k : K3) : Prop where
  a : k.1.length ≤ 1073741824
  b : k.2.1.length ≤ 1073741824
  c : k.2.2.length ≤ 1073741824
theorem keyLits_of (k : K3) (h : FitK k) (d : Nat) : Tryz.prog.keyLits (d + 2) tKey [.string (bs k.1), .string (bs k.2.1), .string (bs k.2.2)] = some (litsK k) := by
  have one : ∀ l : List UInt8, l.length ≤ 1073741824 → Tryz.prog.keyLits (d + 1) 9 [.string (bs l)] = some [.string l] := by
    intro l hl
    unfold Program.keyLits
    rw [Tryz.underlying9]
    simp only
    rw [if_pos (by rw [size_bs]; unfold maxLen; omega)]
    rfl
  unfold Program.keyLits
  rw [undKey]
  simp only
  rw [cellsKey, cellsStr]
  rw [if_pos (show [Value.string (bs k.1), Value.string (bs k.2.1), Value.string (bs k.2.2)].length = 3 from rfl)]
  simp [List.range, List.range.loop, one _ h.a, one _ h.b, one _ h.c, litsK]
theorem keyT_inj {k l : K3} (hk : FitK k) (hl : FitK l) (h : keyT k = keyT l) : k = l := by
  injection h with h
  have := keyLits_inj (keyLits_of k hk 0) (keyLits_of l hl 0) h
  obtain ⟨a, b, c⟩ := k
  obtain ⟨x, y, z⟩ := l
  unfold litsK at this
  simp only [List.cons.injEq, Lit.string.injEq, and_true] at this
  obtain ⟨rfl, rfl, rfl⟩ := this
  rfl
theorem keyOf_K (k : K3) (h : FitK k) : keyOf Tryz.prog tKey (keyV k) = some (keyT k) := by
  unfold keyOf
  rw [undKey]
  simp only
  have hf : (keyV k).formed Tryz.prog tKey = true := by
    unfold keyV
    simp [Value.formed, cellsKey]
  rw [keyTypeK, hf]
  obtain ⟨m, hm⟩ : ∃ m, Tryz.prog.types.size = m + 1 := Nat.exists_eq_succ_of_ne_zero (by
    intro e
    have := rowKey
    rw [e] at this
    exact absurd this (Nat.not_lt_zero _))
  have hc : (keyV k).cells.toList = [.string (bs k.1), .string (bs k.2.1), .string (bs k.2.2)] := rfl
  have hq := keyLits_of k h m
  obtain ⟨ls, hls⟩ := name_it (litsK k)
  have hkt : keyT k = .string (keyBytes ls) := by unfold keyT; rw [hls.out]
  rw [hls.out] at hq
  rw [hm, hc, hq, hkt]
  rfl

/-- a cookie that is kept: its block, its number -/
structure It where
  blk : Nat
  k : Kp
  num : Nat
  deriving DecidableEq
instance : Inhabited It := ⟨⟨0, default, 0⟩⟩
def cellsK (x : It) : List Value := cellsS { x.k.c with path := x.k.path } ++ [.string (bs x.k.c.name), .string (bs x.k.dom), .string (bs x.k.path), .bool (decide (x.k.c.domain ≠ [])), .int .i64 x.k.till, .bool x.k.ends, .int .i64 x.num]
def ptrV (b : Nat) : Value := .pointer (some ⟨b, 0, none⟩)
theorem ptrV_inj {a b : Nat} (h : ptrV a = ptrV b) : a = b := by unfold ptrV at h; injection h with h; injection h with h; injection h
open Classical in
/-- how a pointer to a kept cookie reads -/
noncomputable def RJ (v : Value) : Option (DataW Unit × List MemPlace) :=
  if h : ∃ b, v = ptrV b then some (.lit (.int .i64 (h.choose : Int)), []) else if v = .pointer none then some (.lit (.int .i64 (-1)), []) else none
theorem RJ_ptr (b : Nat) : RJ (ptrV b) = some (aL b, []) := by
  unfold RJ
  have h : ∃ m, ptrV b = ptrV m := ⟨b, rfl⟩
  rw [dif_pos h]
  have := ptrV_inj h.choose_spec
  rw [← this]; rfl
theorem RJ_nil : RJ (.pointer none) = some (aL (-1), []) := by
  unfold RJ
  rw [dif_neg (fun ⟨m, e⟩ => by cases e), if_pos rfl]; rfl
theorem RJ_inv {v : Value} {n : Int} {ps : List MemPlace} (h : RJ v = some (aL n, ps)) : (n = -1 ∧ v = .pointer none) ∨ (∃ k : Nat, n = k ∧ v = ptrV k) := by
  unfold RJ at h
  by_cases h1 : ∃ m, v = ptrV m
  · rw [dif_pos h1] at h
    injection h with h; injection h with h _; injection h with h; injection h with _ h
    exact Or.inr ⟨h1.choose, h.symm, h1.choose_spec⟩
  · rw [dif_neg h1] at h
    split at h
    · rename_i hv
      injection h with h; injection h with h _; injection h with h; injection h with _ h
      exact Or.inl ⟨h.symm, hv⟩
    · cases h
/-- the block that is kept under a key -/
def blkOf (l : List It) (k : K3) : Int := match l.find? fun x => decide (x.k.key = k) with | some x => x.blk | none => -1
/-- what the map says -/
structure Says (D : DataW Unit) (l : List It) : Prop where
  tidy : Tidy D
  has : ∀ k, FitK k → Maps.has D (keyT k) = l.any fun x => decide (x.k.key = k)
  at_ : ∀ k, FitK k → D.atKey (keyT k) (aL (-1)) = aL (blkOf l k)
  size : Maps.size D = l.length
  only : ∀ kl, Maps.has D kl = true → ∃ x ∈ l, kl = keyT x.k.key
theorem own_tight {w : World} {k : TypeId} {R : Value → Option (DataW Unit × List MemPlace)} {b n : Nat} {D : DataW Unit} (h : w.ownsMap Tryz.prog k R b n D) : w.ownsMap Tryz.prog k R b (Maps.size D) D := by
  obtain ⟨es, clock, h1, F, hs, hD⟩ := h
  refine ⟨es, clock, h1, F, ?_, hD⟩
  rw [hD]
  show es.size ≤ ((es.toList.map _).foldr DataW.insert []).length
  rw [length_sorted, List.length_map]
  exact Nat.le_refl _
theorem own_says {w : World} {b n : Nat} {D : DataW Unit} {l : List It} (h : w.ownsMap Tryz.prog tKey RJ b n D) (hD : Says D l) : w.ownsMap Tryz.prog tKey RJ b l.length D := by
  have := own_tight h
  rwa [hD.size] at this
/-- a jar -/
structure JarAt (w : World) (jb mb most next : Nat) (l : List It) : Prop where
  jar : CellsAt w jb [.int .i64 most, .map (some mb), .int .i64 next]
  map : ∃ D, w.ownsMap Tryz.prog tKey RJ mb l.length D ∧ Says D l
  its : ∀ x ∈ l, CellsAt w x.blk (cellsK x)
  off : ∀ x ∈ l, x.blk ≠ jb ∧ x.blk ≠ mb
  jm : jb ≠ mb
  ord : l.Pairwise fun x y => x.num < y.num
  lim : ∀ x ∈ l, x.num < next
  keys : (l.map fun x => x.k.key).Nodup
  blks : (l.map It.blk).Nodup
  fit : ∀ x ∈ l, FitC x.k.c ∧ FitK x.k.key ∧ -9223372036854775808 ≤ x.k.till ∧ x.k.till ≤ 9223372036854775807
  most : most ≤ 3000
theorem JarAt.keeps {S : Nat → Prop} {w w' : World} {jb mb most next : Nat} {l : List It} (h : JarAt w jb mb most next l) (K : Keeps S w w') (hj : ¬ S jb) (hm : ¬ S mb) (hx : ∀ x ∈ l, ¬ S x.blk) : JarAt w' jb mb most next l where
  jar := h.jar.keeps K hj
  map := by
    obtain ⟨D, h1, h2⟩ := h.map
    exact ⟨D, map_keeps h1 K hm, h2⟩
  its x hx' := (h.its x hx').keeps K (hx x hx')
  off := h.off
  jm := h.jm
  ord := h.ord
  lim := h.lim
  keys := h.keys
  blks := h.blks
  fit := h.fit
  most := h.most
theorem JarAt.next_ {w w' : World} {jb mb most next : Nat} {l : List It} (h : JarAt w jb mb most next l) (hb : Below w.heap.size w w') : JarAt w' jb mb most next l :=
  h.keeps (S := fun _ => False) (Keeps.of hb (Nat.le_refl _)) (fun f => f) (fun f => f) (fun _ _ f => f)
/-- an empty jar -/
theorem JarAt.empty (w : World) (most : Nat) (hm : most ≤ 3000) : JarAt ((w.alloc (.map #[] 0)).alloc (.cells #[.int .i64 most, .map (some w.heap.size), .int .i64 0] tJar)) (w.heap.size + 1) w.heap.size most 0 [] where
  jar := by
    have z1 : (w.alloc (.map #[] 0)).heap.size = w.heap.size + 1 := Array.size_push ..
    exact z1 ▸ CellsAt.first (w.alloc (.map #[] 0)) [.int .i64 most, .map (some w.heap.size), .int .i64 0] tJar
  map := ⟨.map [], (World.ownsMap_made (H := Unit) w Tryz.prog tKey RJ).alloc _, ⟨tidy_empty, fun _ _ => rfl, fun _ _ => rfl, rfl, fun _ h => by cases h⟩⟩
  its x hx := by cases hx
  off x hx := by cases hx
  jm := by omega
  ord := List.Pairwise.nil
  lim x hx := by cases hx
  keys := List.Pairwise.nil
  blks := List.Pairwise.nil
  fit x hx := by cases hx
  most := hm
set_option maxRecDepth 100000 in
theorem new_bad (m : Int) (w : World) (h : ¬ (1 ≤ m ∧ m ≤ 3000)) : Calls Tryz.prog 33 #[.int .i64 m] w fun e w' => e = .returned (.tuple #[.pointer none, .int .i64 1]) ∧ w = w' := by
  have hm : m < 1 ∨ (1 ≤ m ∧ 3000 < m) := by omega
  clear h
  rcases hm with h | ⟨h, h'⟩
  all_goals
    go_enter Tryz.func33, Tryz.ntmps33
    go_wp2_with fail
    all_goals (try (exfalso; omega))
    go_ret2
    exact ⟨rfl, rfl⟩
set_option maxRecDepth 100000 in
theorem new_any (m : Nat) (w : World) (h1 : 1 ≤ m) (h2 : m ≤ 3000) : Calls Tryz.prog 33 #[.int .i64 m] w fun e w' => e = .returned (.tuple #[.pointer (some ⟨w.heap.size + 1, 0, none⟩), .int .i64 0]) ∧ JarAt w' (w.heap.size + 1) w.heap.size m 0 [] ∧ Below w.heap.size w w' := by
  have hmm := @run_makeMap Tryz.prog
  have J := Lib.hid (JarAt.empty w m h2)
  have z1 : (w.alloc (.map #[] 0)).heap.size = w.heap.size + 1 := Array.size_push ..
  have B : Hid (Below w.heap.size w ((w.alloc (.map #[] 0)).alloc (.cells #[.int .i64 m, .map (some w.heap.size), .int .i64 0] tJar))) := ((Below.refl _ _).alloc (Nat.le_refl _) _).alloc (by rw [z1]; omega) _
  go_enter Tryz.func33, Tryz.ntmps33
  go_wp2_with fail
  all_goals (try (exfalso; omega))
  go_ret2
  exact ⟨rfl, J.out, B.out⟩
/-- over at a moment -/
theorem over_any (x : It) (now : Int) (w : World) (h : CellsAt w x.blk (cellsK x)) : Calls Tryz.prog 73 #[ptrV x.blk, .int .i64 now] w fun e w' => e = .returned (.bool (x.k.over now)) ∧ w = w' := by
  have d15 := h.at 15 _ rfl
  have d16 := h.at 16 _ rfl
  have hR : Hid (x.k.over now = (x.k.ends && decide (x.k.till ≤ now))) := rfl
  rw [hR.out]
  obtain ⟨b, hb⟩ : ∃ b, b = x.blk := ⟨_, rfl⟩
  rw [← hb] at d15 d16 ⊢
  obtain ⟨E, hE⟩ := name_it x.k.ends
  obtain ⟨T, hT⟩ := name_it x.k.till
  rw [hE.out] at d16 ⊢
  rw [hT.out] at d15 ⊢
  unfold ptrV
  clear h hR hE hT hb
  cases E with
  | false =>
    go_enter Tryz.func73, Tryz.ntmps73
    go_wp2_with fail
    go_ret
    exact ⟨rfl, rfl⟩
  | true =>
    go_enter Tryz.func73, Tryz.ntmps73
    go_wp2_with fail
    go_ret
    exact ⟨rfl, rfl⟩
end Go.Proofs.YtkenianfpfamcaaGreatDoor
