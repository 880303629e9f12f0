/- A jar lets go what is over. What is wrong with setting a cookie in a jar. A cookie is put in a jar: plain, and what it does to the jar in memory. -/
import Derived.Test.YtkenianfpfamcaaGreatDoorMl
import Derived.Deep.RegionHeld3
import Derived.Deep.DeepCutAuto
namespace Go.Proofs.YtkenianfpfamcaaGreatDoor
open Go Go.RowKit Go.Maps Go.WideMaps
set_option maxHeartbeats 8000000

theorem undM : Tryz.prog.underlying tMp = some (.map tKey tPk) := Tryz.underlying118
theorem drop_mem {x y : It} {l : List It} (h : y ∈ drop1 x l) : y ∈ l := (List.mem_filter.1 h).1
theorem drop_map {α : Type} (f : It → α) (x : It) (l : List It) : ((drop1 x l).map f).Sublist (l.map f) := List.Sublist.map f List.filter_sublist
theorem JarAt.drop {w w' : World} {jb mb most next N : Nat} {l : List It} {x : It} {D : DataW Unit} (h : JarAt w jb mb most next l) (hx : x ∈ l) (hD : Says D l) (own : w'.ownsMap Tryz.prog tKey RJ mb N (D.del (keyT x.k.key))) (K : Keeps (fun i => i = mb) w w') :
    JarAt w' jb mb most next (drop1 x l) where
  jar := h.jar.keeps K h.jm
  map := ⟨_, own_says own (hD.drop (h.fit x hx).2.1 hx h.keys (fun y hy => (h.fit y hy).2.1)), hD.drop (h.fit x hx).2.1 hx h.keys (fun y hy => (h.fit y hy).2.1)⟩
  its y hy := (h.its y (drop_mem hy)).keeps K (h.off y (drop_mem hy)).2
  off y hy := h.off y (drop_mem hy)
  jm := h.jm
  ord := h.ord.sublist List.filter_sublist
  lim y hy := h.lim y (drop_mem hy)
  keys := h.keys.sublist (drop_map _ x l)
  blks := h.blks.sublist (drop_map _ x l)
  fit y hy := h.fit y (drop_mem hy)
  most := h.most
def swI (l : List It) (i : Nat) (now : Int) : List It := l.filter fun y => !(y.k.over now && decide (y ∈ l.take i))
theorem swI_zero (l : List It) (now : Int) : swI l 0 now = l := by
  unfold swI
  rw [List.filter_eq_self]
  intro y _
  simp
theorem swI_end (l : List It) (now : Int) : swI l l.length now = l.filter fun y => !y.k.over now := by
  unfold swI
  refine List.filter_congr fun y hy => ?_
  rw [List.take_length, decide_eq_true hy, Bool.and_true]
theorem take_mem {l : List It} {i : Nat} (h : i < l.length) (y : It) : y ∈ l.take (i + 1) ↔ y ∈ l.take i ∨ y = l[i] := by
  rw [List.take_succ_eq_append_getElem h, List.mem_append, List.mem_singleton]
theorem swI_keep {l : List It} {i : Nat} {now : Int} (h : i < l.length) (ho : l[i].k.over now = false) : swI l (i + 1) now = swI l i now := by
  unfold swI
  refine List.filter_congr fun y _ => ?_
  by_cases e : y = l[i]
  · subst e; rw [ho]; rfl
  · have : decide (y ∈ l.take (i + 1)) = decide (y ∈ l.take i) := by
      rw [Bool.eq_iff_iff, decide_eq_true_eq, decide_eq_true_eq, take_mem h]
      exact ⟨fun h => h.resolve_right e, Or.inl⟩
    rw [this]
theorem swI_drop {l : List It} {i : Nat} {now : Int} (h : i < l.length) (ho : l[i].k.over now = true) (hn : (l.map fun x => x.k.key).Nodup) : swI l (i + 1) now = drop1 l[i] (swI l i now) := by
  unfold swI drop1
  rw [List.filter_filter]
  refine List.filter_congr fun y hy => ?_
  by_cases e : y = l[i]
  · subst e
    rw [ho, decide_eq_true ((take_mem h _).2 (Or.inr rfl))]
    simp
  · have h1 : decide (y ∈ l.take (i + 1)) = decide (y ∈ l.take i) := by
      rw [Bool.eq_iff_iff, decide_eq_true_eq, decide_eq_true_eq, take_mem h]
      exact ⟨fun h => h.resolve_right e, Or.inl⟩
    have h2 : ¬ y.k.key = l[i].k.key := fun h2 => e (key_inj hn hy (List.getElem_mem h) h2)
    rw [h1, decide_eq_false h2]
    simp
theorem swI_mem {l : List It} {i : Nat} {now : Int} (h : i < l.length) (hn : l.Nodup) : l[i] ∈ swI l i now := by
  unfold swI
  refine List.mem_filter.2 ⟨List.getElem_mem h, ?_⟩
  have : ¬ l[i] ∈ l.take i := by
    intro hm
    have h1 := hn
    rw [← List.take_append_drop i l, List.nodup_append] at h1
    refine h1.2.2 _ hm l[i] ?_ rfl
    rw [List.drop_eq_getElem_cons h]
    exact List.mem_cons_self ..
  simp [this]
theorem swI_len (l : List It) (i : Nat) (now : Int) : (swI l i now).length ≤ l.length := List.length_filter_le _ _
theorem drop_len {l : List It} {x : It} (hx : x ∈ l) (hn : (l.map fun x => x.k.key).Nodup) : (drop1 x l).length + 1 = l.length := by
  unfold drop1
  induction l with
  | nil => cases hx
  | cons y l ih =>
    rw [List.map_cons, List.nodup_cons] at hn
    rcases List.mem_cons.1 hx with rfl | hx
    · have : (l.filter fun y => !decide (y.k.key = x.k.key)) = l := List.filter_eq_self.2 fun y hy => by
        have : ¬ y.k.key = x.k.key := fun e => hn.1 (e ▸ List.mem_map.2 ⟨y, hy, rfl⟩)
        simp [this]
      rw [List.filter_cons, if_neg (by simp), this, List.length_cons]
    · have hne : ¬ y.k.key = x.k.key := fun e => hn.1 (e ▸ List.mem_map.2 ⟨x, hx, rfl⟩)
      rw [List.filter_cons, if_pos (by simp [hne]), List.length_cons, List.length_cons, ih hx hn.2]
set_option maxRecDepth 100000 in
theorem sweep_any (w : World) (jb mb most next : Nat) (l : List It) (now : Int) (hJ : JarAt w jb mb most next l) (hn : next ≤ 1099511627776) (hl : l.length ≤ 1099511627776) :
    Calls Tryz.prog 69 #[ptrV jb, .int .i64 now] w fun e w' => e = .returned (.int .i64 ((l.length : Int) - (l.filter fun y => !y.k.over now).length)) ∧ JarAt w' jb mb most next (l.filter fun y => !y.k.over now) ∧ Keeps (fun i => i = mb) w w' := by
  have ORD := Lib.hid (order_any w jb mb most next l hJ hn hl)
  have J := Lib.hid hJ
  have GM : Hid (mb < w.heap.size) := by obtain ⟨D, h, _⟩ := hJ.map; exact h.lt
  clear hJ
  unfold ptrV at ORD ⊢
  go_enter Tryz.func69, Tryz.ntmps69
  go_wp2_with fail
  refine ORD.out.mono ?_; rintro e w1 ⟨⟨v, rfl, sp, cap, rfl, hsp⟩, hb1⟩
  have J1 := Lib.hid (J.out.next_ hb1)
  have K1 : Hid (Keeps (fun i => i = mb) w w1) := Keeps.of hb1 (Nat.le_refl _)
  have HSP := Lib.hid hsp
  rw [List.length_map]
  clear ORD J hsp hb1
  go_wp2_with fail
  have A0 : Hid (JarAt w1 jb mb most next (swI l 0 now)) := by rw [swI_zero]; exact J1
  have N0 : Hid ((0 : Int) = (l.length : Int) - (swI l 0 now).length) := by rw [swI_zero]; unfold Hid; omega
  go_loopw [5, 7, 11] (fun n _ i wr => ∃ k : Nat, k ≤ l.length ∧ i = .int .i64 k ∧ n = .int .i64 ((l.length : Int) - (swI l k now).length) ∧ Hid (JarAt wr jb mb most next (swI l k now)) ∧ Hid (Keeps (fun i => i = mb) w1 wr)) (fun _ _ i _ => l.length - (intOf i).toNat)
  case atStart => exact ⟨0, Nat.zero_le _, rfl, by rw [← N0.out], A0, Keeps.refl _ _⟩
  clear A0 N0
  case round =>
    obtain ⟨k, hk, rfl, rfl, hA, hK⟩ := hrel
    obtain ⟨wq, hwq⟩ : ∃ wq, wq = wr := ⟨wr, rfl⟩
    subst hwq
    by_cases hlt : k < l.length
    · obtain ⟨g, rfl, hg1, hg2, hg3⟩ : ∃ g, sp = some ⟨g, 0, none⟩ ∧ w.heap.size ≤ g ∧ g < w1.heap.size ∧ ∀ i (h : i < (l.map It.blk).length), w1.cell? ⟨g, i, none⟩ = some (ptrV (l.map It.blk)[i]) := by
        rcases HSP.out with h | h
        · have := congrArg List.length h
          rw [List.length_map, List.length_nil] at this
          omega
        · exact h
      have CG : wq.cell? ⟨g, k, none⟩ = some (.pointer (some ⟨l[k].blk, 0, none⟩)) := by
        rw [cell_of_block (hK.out.block g hg2 (by have := GM.out; omega)), hg3 k (by rw [List.length_map]; exact hlt), List.getElem_map]; rfl
      have hm := swI_mem (now := now) hlt (nodup_keys J1.out.keys)
      have HM := Lib.hid hm
      have CX := Lib.hid (hA.out.its _ hm)
      have OV := Lib.hid (over_any l[k] now wq CX.out)
      have hsl := swI_len l k now
      unfold ptrV at OV
      clear hg3 hm
      cases ho : l[k].k.over now with
      | false =>
        rw [ho] at OV
        have HS := Lib.hid (swI_keep hlt ho)
        obtain ⟨x, hx⟩ := name_it l[k]
        rw [hx.out] at CG OV
        clear CX HM ho hx
        go_wp2_with fail
        all_goals (try (exfalso; omega))
        refine OV.out.mono ?_; rintro e w2 ⟨rfl, rfl⟩
        go_wp2_with fail
        go_roundw
        case rel => exact ⟨k + 1, by omega, by go_num, by rw [HS.out], by rw [HS.out]; exact hA, hK⟩
        case measure => simp [intOf]; omega
      | true =>
        rw [ho] at OV
        have HS := Lib.hid (swI_drop hlt ho J1.out.keys)
        have HL := Lib.hid (drop_len HM.out hA.out.keys)
        have hfit := Lib.hid (hA.out.fit _ HM.out).2.1
        have jc := hA.out.jar.at 1 _ rfl
        have e11 := CX.out.at 11 _ rfl
        have e12 := CX.out.at 12 _ rfl
        have e13 := CX.out.at 13 _ rfl
        obtain ⟨D, hown, hsay⟩ := hA.out.map
        have hod := hown.drew
        obtain ⟨w3, hrun, own3, turn3⟩ := hod.drop lawK undM (keyOf_K _ hfit.out) 0
        have KD : Hid (Keeps (fun i => i = mb) wq w3) := (Keeps.of ((Below.refl wq.heap.size wq).drew) (Nat.le_refl _)).trans (keeps_grown (S := fun i => i = mb) turn3.grown rfl)
        have JD := Lib.hid (hA.out.drop HM.out hsay own3 KD.out)
        have CX3 := CX.out.keeps KD.out (hA.out.off _ HM.out).2
        have q11 := CX3.at 11 _ rfl
        have q12 := CX3.at 12 _ rfl
        have q13 := CX3.at 13 _ rfl
        unfold keyV at hrun
        obtain ⟨x, hx⟩ := name_it l[k]
        rw [hx.out] at CG OV JD HS HL e11 e12 e13 q11 q12 q13 hrun
        have hkk : x.k.key = (x.k.c.name, x.k.dom, x.k.path) := rfl
        rw [hkk] at hrun
        clear CX3 CX HM ho hx hown hod own3 turn3 hsay hfit hkk
        dsimp only at hrun
        go_wp2_with fail
        all_goals (try (exfalso; omega))
        refine OV.out.mono ?_; rintro e w2 ⟨rfl, rfl⟩
        have QF := Lib.hid (And.intro (JD.out.jar.at 1 _ rfl) (And.intro q11 (And.intro q12 q13)))
        clear q11 q12 q13
        go_wp2_with fail
        go_region_held3 (fun W => W.cell? ⟨jb, 1, none⟩ = some (.map (some mb)) ∧ W.cell? ⟨x.blk, 11, none⟩ = some (.string (bs x.k.c.name)) ∧ W.cell? ⟨x.blk, 12, none⟩ = some (.string (bs x.k.dom)) ∧ W.cell? ⟨x.blk, 13, none⟩ = some (.string (bs x.k.path)))
          (first | go_keep | exact QF.out) (fail)
        go_wp2_with fail
        go_roundw
        case rel => exact ⟨k + 1, by omega, by go_num, by rw [HS.out]; exact val_int (by have := HL.out; omega), by rw [HS.out]; exact JD, hK.out.trans KD.out⟩
        case measure => simp [intOf]; omega
    · obtain rfl : k = l.length := by omega
      rw [swI_end] at hA
      have JE := Lib.hid hA
      have KE := Lib.hid (K1.out.trans hK.out)
      rw [swI_end]
      clear hA hK
      go_wp2_with fail
      all_goals (try (exfalso; omega))
      go_ret
      exact ⟨rfl, JE.out, KE.out⟩
theorem sweep_nil (w : World) (now : Int) : Calls Tryz.prog 69 #[.pointer none, .int .i64 now] w fun e w' => e = .returned (.int .i64 0) ∧ Below w.heap.size w w' := by
  go_enter Tryz.func69, Tryz.ntmps69
  go_wp2_with fail
  refine (order_nil w).mono ?_; rintro e w1 ⟨⟨v, rfl, sp, cap, rfl, hsp⟩, hb1⟩
  simp only [List.length_nil]
  go_wp2_with fail
  go_loopw [5, 7, 11] (fun n _ i wr => i = .int .i64 0 ∧ n = .int .i64 0 ∧ wr = w1) (fun _ _ _ _ => 0)
  case atStart => exact ⟨rfl, rfl, rfl⟩
  case round =>
    obtain ⟨rfl, rfl, rfl⟩ := hrel
    go_wp2_with fail
    go_ret
    exact ⟨rfl, hb1⟩
theorem len_any (w : World) (jb mb most next : Nat) (l : List It) (hJ : JarAt w jb mb most next l) (hn : next ≤ 1099511627776) (hl : l.length ≤ 1099511627776) :
    Calls Tryz.prog 34 #[ptrV jb] w fun e w' => e = .returned (.int .i64 l.length) ∧ Below w.heap.size w w' := by
  have ORD := Lib.hid (order_any w jb mb most next l hJ hn hl)
  unfold ptrV at ORD ⊢
  go_enter Tryz.func34, Tryz.ntmps34
  go_wp2_with fail
  refine ORD.out.mono ?_; rintro e w1 ⟨⟨v, rfl, sp, cap, rfl, hsp⟩, hb1⟩
  rw [List.length_map]
  go_wp2_with fail
  go_ret
  exact ⟨rfl, hb1⟩
theorem len_nil (w : World) : Calls Tryz.prog 34 #[.pointer none] w fun e w' => e = .returned (.int .i64 0) ∧ Below w.heap.size w w' := by
  go_enter Tryz.func34, Tryz.ntmps34
  go_wp2_with fail
  refine (order_nil w).mono ?_; rintro e w1 ⟨⟨v, rfl, sp, cap, rfl, hsp⟩, hb1⟩
  simp only [List.length_nil]
  go_wp2_with fail
  go_ret
  exact ⟨rfl, hb1⟩
end Go.Proofs.YtkenianfpfamcaaGreatDoor
namespace Go.Proofs.YtkenianfpfamcaaGreatDoor
open Go Go.RowKit Go.Maps Go.WideMaps
set_option maxHeartbeats 8000000

def wasI (l : List It) (k : K3) : Option It := l.find? fun y => decide (y.k.key = k)
def wrongI (l : List It) (c : SetC) (k : K3) (host : List UInt8) (secure : Bool) (now : Int) : Int :=
  if c.domain ≠ [] ∧ belongsC host c.domain = false then 162
  else if unsafe1 c secure = true then 163
  else match wasI l k with
    | none => 0
    | some y => if secure = false ∧ y.k.c.secure = true ∧ y.k.over now = false then 163 else 0
def wasV (o : Option It) : Value := match o with | some y => ptrV y.blk | none => .pointer none
theorem zeroP (w : World) : (zeroValue tPk).run Tryz.prog w = .ok (.pointer none) w := by kernel_rfl
theorem was_val {D : DataW Unit} {l : List It} {k : K3} {v : Value} {ps : List MemPlace} (h : Says D l) (hk : FitK k) (hv : RJ v = some (D.atKey (keyT k) (aL (-1)), ps)) : v = wasV (wasI l k) := by
  rw [h.at_ k hk] at hv
  unfold blkOf at hv
  unfold wasI wasV
  cases hf : l.find? fun y => decide (y.k.key = k) with
  | none =>
    rw [hf] at hv
    rcases RJ_inv hv with ⟨_, h⟩ | ⟨b, h, _⟩
    · exact h
    · simp only at h; omega
  | some y =>
    rw [hf] at hv
    rcases RJ_inv hv with ⟨h, _⟩ | ⟨b, h, hb⟩
    · simp only at h; omega
    · simp only at h ⊢
      have : y.blk = b := by omega
      rw [this]; exact hb
theorem was_mem {l : List It} {k : K3} {y : It} (h : wasI l k = some y) : y ∈ l ∧ y.k.key = k := ⟨List.mem_of_find?_eq_some h, by have := List.find?_some (p := fun y : It => decide (y.k.key = k)) h; exact of_decide_eq_true this⟩
set_option maxRecDepth 100000 in
theorem wrong_any (w : World) (jb mb most next : Nat) (l : List It) (c : SetC) (k : K3) (host : ByteArray) (secure : Bool) (now : Int) (hJ : JarAt w jb mb most next l) (hk : FitK k) (hf : FitC c) (hh : host.size ≤ 1073741824) :
    Calls Tryz.prog 68 #[ptrV jb, .agg (cellsS c).toArray, keyV k, .string host, .bool secure, .int .i64 now] w fun e w' => e = .returned (.int .i64 (wrongI l c k (L host) secure now)) ∧ Below w.heap.size w w' := by
  have HB := Lib.hid (fun wx => belongs_any host (bs c.domain) wx hh (by rw [size_bs]; exact hf.d))
  simp only [L_bs] at HB
  have KC := Lib.hid (CellsAt.first w (cellsS c) tS)
  have B1 := below_put2 (w := w) (cs := (cellsS c).toArray) (T := tS)
  have z1 : (w.alloc (.cells (cellsS c).toArray tS)).heap.size = w.heap.size + 1 := Array.size_push ..
  have KK := Lib.hid (CellsAt.first (w.alloc (.cells (cellsS c).toArray tS)) [.string (bs k.1), .string (bs k.2.1), .string (bs k.2.2)] tKey)
  have B2 := B1.alloc (by rw [z1]; omega) (.cells #[.string (bs k.1), .string (bs k.2.1), .string (bs k.2.2)] tKey)
  have KC2 := Lib.hid (KC.out.next ((Below.refl _ _).alloc (Nat.le_refl _) (.cells #[.string (bs k.1), .string (bs k.2.1), .string (bs k.2.2)] tKey)))
  rw [z1] at KK
  have J2 := Lib.hid (hJ.next_ B2)
  have D2 := Lib.hid B2
  obtain ⟨V, hV⟩ := name_it (wrongI l c k (L host) secure now)
  rw [hV.out]
  have hw : wrongI l c k (L host) secure now = if c.domain ≠ [] ∧ belongsC (L host) c.domain = false then 162 else if unsafe1 c secure = true then 163 else match wasI l k with
    | none => 0
    | some y => if secure = false ∧ y.k.c.secure = true ∧ y.k.over now = false then 163 else 0 := rfl
  unfold unsafe1 at hw
  obtain ⟨n, v, p, d, ma, hm, ex, he, sc, ht, sm⟩ := c
  obtain ⟨k1, k2, k3⟩ := k
  unfold cellsS at KC2 KK J2 D2 ⊢
  unfold keyV ptrV
  simp only at KC2 KK J2 D2 HB hw ⊢
  have ed := empty_iff d
  clear B1 B2 KC z1 hJ hf
  go_enter Tryz.func68, Tryz.ntmps68
  go_wp2_with fail
  generalize (w.alloc _).alloc _ = w2 at KC2 KK J2 D2 ⊢
  obtain ⟨D, hown, hsay⟩ := J2.out.map
  have hod := hown.drew
  obtain ⟨vw, pl, hrun, hvw⟩ := hod.lookup lawK undM (zeroP _) RJ_nil (keyOf_K (k1, k2, k3) hk)
  have hvv := was_val hsay hk hvw
  subst hvv
  have jc := J2.out.jar.at 1 _ rfl
  have k11 := KK.out.at 0 _ rfl
  have k12 := KK.out.at 1 _ rfl
  have k13 := KK.out.at 2 _ rfl
  have hrun : (Instr.lookup 118 (.map (some mb)) (.agg #[.string (bs k1), .string (bs k2), .string (bs k3)]) false).run Tryz.prog w2.drew = .ok (wasV (wasI l (k1, k2, k3))) w2.drew := hrun
  obtain ⟨wv, hwv⟩ := name_it (wasV (wasI l (k1, k2, k3)))
  rw [hwv.out] at hrun
  clear hown hod hvw hsay
  go_region_held3 (fun W => W.cell? ⟨jb, 1, none⟩ = some (.map (some mb)) ∧ W.cell? ⟨w.heap.size + 1, 0, none⟩ = some (.string (bs k1)) ∧ W.cell? ⟨w.heap.size + 1, 1, none⟩ = some (.string (bs k2)) ∧ W.cell? ⟨w.heap.size + 1, 2, none⟩ = some (.string (bs k3))) (go_keep) (fail)
  have bd := (Below.refl w2.heap.size w2).drew
  have KC3 := Lib.hid (KC2.out.next bd)
  have J3 := Lib.hid (J2.out.next_ bd)
  have D3 := Lib.hid (D2.out.trans (bd.mono D2.out.size))
  clear bd KC2 KK J2 D2 jc k11 k12 k13 hrun
  generalize w2.drew = w3 at KC3 J3 D3 ⊢
  have X4d : Hid (V = if (!decide (d = []) && !belongsC (L host) d) = true then 162 else if (!secure && (sc || decide (sm = 3))) = true then 163 else if (decide (sm = 3) && !sc) = true then 163 else if (match wasI l (k1, k2, k3) with | none => false | some y => !secure && (y.k.c.secure && !y.k.over now)) = true then 163 else 0) := by
    unfold Hid
    rw [← hV.out, hw]
    have e1 : (d ≠ [] ∧ belongsC (L host) d = false) ↔ (!decide (d = []) && !belongsC (L host) d) = true := by simp
    by_cases h1 : (!decide (d = []) && !belongsC (L host) d) = true
    · rw [if_pos (e1.2 h1), if_pos h1]
    · rw [if_neg (fun h => h1 (e1.1 h)), if_neg h1]
      by_cases h2 : (!secure && (sc || decide (sm = 3))) = true
      · rw [if_pos (by rw [h2]; rfl), if_pos h2]
      · rw [if_neg h2]
        by_cases h3 : (decide (sm = 3) && !sc) = true
        · rw [if_pos (by rw [h3]; simp), if_pos h3]
        · rw [if_neg (by simp only [Bool.not_eq_true] at h2 h3; rw [h2, h3]; decide), if_neg h3]
          cases wasI l (k1, k2, k3) with
          | none => rfl
          | some y =>
            have e4 : (secure = false ∧ y.k.c.secure = true ∧ y.k.over now = false) ↔ (!secure && (y.k.c.secure && !y.k.over now)) = true := by simp
            by_cases h4 : (!secure && (y.k.c.secure && !y.k.over now)) = true
            · simp only
              rw [if_pos (e4.2 h4), if_pos h4]
            · simp only
              rw [if_neg (fun h => h4 (e4.1 h)), if_neg h4]
  clear hV hw
  obtain ⟨X1, hX1⟩ := name_it (!decide (d = []) && !belongsC (L host) d)
  obtain ⟨X2, hX2⟩ := name_it (!secure && (sc || decide (sm = 3)))
  obtain ⟨X3, hX3⟩ := name_it (decide (sm = 3) && !sc)
  obtain ⟨X4, hX4⟩ := name_it (match wasI l (k1, k2, k3) with | none => false | some y => !secure && (y.k.c.secure && !y.k.over now))
  rw [hX1.out, hX2.out, hX3.out, hX4.out] at X4d
  have d3 := KC3.out.at 3 _ rfl
  go_upto_region 2 with fail
  go_cut [20] (fun s wx => s = .bool X1 ∧ Hid (Below w3.heap.size w3 wx))
  case first =>
    clear X4d
    by_cases gp : d = []
    · rw [decide_eq_true gp] at ed
      have hx : Hid (X1 = false) := by rw [← hX1.out, decide_eq_true gp]; rfl
      clear gp hX1
      go_wp2_with fail
      go_meet
      case rel => exact ⟨by rw [hx.out], Below.refl _ _⟩
    · rw [decide_eq_false gp] at ed
      have hx : Hid (X1 = !belongsC (L host) d) := by rw [← hX1.out, decide_eq_false gp]; rfl
      clear gp hX1
      go_wp2_with (go_at_call 71; refine (HB.out _).mono ?_; rintro e w' ⟨rfl, hbb⟩)
      go_meet
      case rel => exact ⟨by rw [hx.out], hbb⟩
  case rest =>
    obtain ⟨rfl, hbc⟩ := hcut
    have KC := Lib.hid (KC3.out.next hbc.out)
    have J := Lib.hid (J3.out.next_ hbc.out)
    have B := Lib.hid (D3.out.trans (hbc.out.mono D3.out.size))
    clear KC3 J3 D3 hbc d3
    generalize wc = w4 at KC J B ⊢
    cases X1 with
    | true =>
      rw [if_pos rfl] at X4d
      go_wp2_with fail
      go_ret
      exact ⟨ret_int X4d.out.symm, B.out⟩
    | false =>
      rw [if_neg (by decide)] at X4d
      have d8 := KC.out.at 8 _ rfl
      have d10 := KC.out.at 10 _ rfl
      go_upto_region 4 with fail
      go_cut [31] (fun s wx => s = .bool X2 ∧ wx = w4)
      case first =>
        clear X4d
        cases secure <;> cases sc
        all_goals
          go_wp2_with fail
          go_meet
          case rel => exact ⟨val_bool (by rw [← hX2.out]; first | rfl | (rw [Bool.eq_iff_iff]; simp)), rfl⟩
      case rest =>
        obtain ⟨rfl, hwc⟩ := hcut
        rw [hwc]
        clear hwc
        cases X2 with
        | true =>
          rw [if_pos rfl] at X4d
          go_wp2_with fail
          go_ret
          exact ⟨ret_int X4d.out.symm, B.out⟩
        | false =>
          rw [if_neg (by decide)] at X4d
          go_upto_region 5 with fail
          go_cut [31] (fun s wx => s = .bool X3 ∧ wx = w4)
          case first =>
            clear X4d
            cases sc
            all_goals
              go_wp2_with fail
              all_goals
                go_meet
                case rel => exact ⟨val_bool (by rw [← hX3.out]; first | rfl | (rw [Bool.eq_iff_iff]; simp; done) | (rw [Bool.eq_iff_iff]; simp; omega)), rfl⟩
          case rest =>
            obtain ⟨rfl, hwc⟩ := hcut
            rw [hwc]
            clear hwc
            cases X3 with
            | true =>
              rw [if_pos rfl] at X4d
              go_wp2_with fail
              go_ret
              exact ⟨ret_int X4d.out.symm, B.out⟩
            | false =>
              rw [if_neg (by decide)] at X4d
              go_upto_region 7 with fail
              go_cut [51] (fun s wx => s = .bool X4 ∧ wx = w4)
              case first =>
                clear X4d d8 d10
                cases hwas : wasI l (k1, k2, k3) with
                | none =>
                  rw [hwas] at hX4 hwv
                  have hwn : wv = .pointer none := hwv.out.symm
                  subst hwn
                  have hx : Hid (X4 = false) := hX4.out.symm
                  clear hX4 hwv hwas
                  cases secure
                  all_goals
                    go_wp2_with fail
                    go_meet
                    case rel => exact ⟨by rw [hx.out], rfl⟩
                | some y =>
                  rw [hwas] at hX4 hwv
                  have hwn : wv = .pointer (some ⟨y.blk, 0, none⟩) := hwv.out.symm
                  subst hwn
                  have hym := (was_mem hwas).1
                  have CY := J.out.its y hym
                  have OV := Lib.hid (over_any y now w4 CY)
                  unfold ptrV at OV
                  have hx : Hid (X4 = (!secure && (y.k.c.secure && !y.k.over now))) := hX4.out.symm
                  have y8 : w4.cell? ⟨y.blk, 8, none⟩ = some (.bool y.k.c.secure) := CY.at 8 _ rfl
                  obtain ⟨ys, hys⟩ := name_it y.k.c.secure
                  obtain ⟨yo, hyo⟩ := name_it (y.k.over now)
                  rw [hys.out] at y8 hx
                  rw [hyo.out] at OV hx
                  clear hX4 hwv hwas CY hym hys hyo
                  cases secure <;> cases ys
                  all_goals
                    go_wp2_with (go_at_call 73; refine OV.out.mono ?_; rintro e w' ⟨rfl, rfl⟩)
                    go_meet
                    case rel => exact ⟨by rw [hx.out]; (first | rfl | simp), rfl⟩
              case rest =>
                obtain ⟨rfl, hwc⟩ := hcut
                rw [hwc]
                clear hwc
                cases X4 with
                | true =>
                  rw [if_pos rfl] at X4d
                  go_wp2_with fail
                  go_ret
                  exact ⟨ret_int X4d.out.symm, B.out⟩
                | false =>
                  rw [if_neg (by decide)] at X4d
                  go_wp2_with fail
                  go_ret
                  exact ⟨ret_int X4d.out.symm, B.out⟩
end Go.Proofs.YtkenianfpfamcaaGreatDoor
namespace Go.Proofs.YtkenianfpfamcaaGreatDoor
open Go Go.RowKit Go.Maps Go.WideMaps

def keyOfC (c : SetC) (host path : List UInt8) : K3 := (c.name, (if c.domain = [] then host else c.domain), (if c.path = [] then defPathC path else c.path))
theorem kpOf_key (c : SetC) (host path : List UInt8) (now : Int) : (kpOf c host path now).key = keyOfC c host path := rfl
theorem was_map (l : List It) (k : Kp) : wasC (l.map It.k) k = (wasI l k.key).map It.k := by
  unfold wasC wasI
  rw [List.find?_map]; rfl
theorem fail_eq (l : List It) (c : SetC) (host path : List UInt8) (secure : Bool) (now : Int) :
    failC (l.map It.k) c host path secure now = if isMom now = false then 1 else if wrongC c ≠ 0 then wrongC c else wrongI l c (keyOfC c host path) host secure now := by
  unfold failC wrongI
  rw [was_map, kpOf_key]
  by_cases h1 : isMom now = false
  · rw [if_pos h1, if_pos h1]
  · rw [if_neg h1, if_neg h1]
    by_cases h2 : wrongC c ≠ 0
    · rw [if_pos h2, if_pos h2]
    · rw [if_neg h2, if_neg h2]
      by_cases h3 : c.domain ≠ [] ∧ belongsC host c.domain = false
      · rw [if_pos h3, if_pos h3]
      · rw [if_neg h3, if_neg h3]
        by_cases h4 : unsafe1 c secure = true
        · rw [if_pos h4, if_pos h4]
        · rw [if_neg h4, if_neg h4]
          cases wasI l (keyOfC c host path) with
          | none => rfl
          | some y => rfl
/-- the jar's list with the cookie put in -/
def putI (l : List It) (x : It) : List It := match wasI l x.k.key with
  | none => l ++ [x]
  | some _ => repl x l
theorem repl_k (x : It) (l : List It) : (repl x l).map It.k = (l.map It.k).map fun y => if y.key = x.k.key then x.k else y := by
  unfold repl
  rw [List.map_map, List.map_map]
  refine List.map_congr_left fun y _ => ?_
  show (if y.k.key = x.k.key then x else y).k = if y.k.key = x.k.key then x.k else y.k
  split <;> rfl
theorem putI_k (l : List It) (x : It) : (putI l x).map It.k = putC (l.map It.k) x.k := by
  unfold putI putC
  rw [was_map]
  cases wasI l x.k.key with
  | none => rw [List.map_append]; rfl
  | some y => exact repl_k x l
def trimI (most : Nat) (now : Int) (l : List It) : List It :=
  let m := if most < l.length then l.filter fun y => !y.k.over now else l
  if most < m.length then m.drop (m.length - most) else m
theorem filter_k (l : List It) (now : Int) : (l.filter fun y => !y.k.over now).map It.k = sweepC (l.map It.k) now := by
  unfold sweepC
  rw [List.filter_map]; rfl
theorem trimI_k (most : Nat) (now : Int) (l : List It) : (trimI most now l).map It.k = trimJ most now (l.map It.k) := by
  unfold trimI trimJ
  simp only [List.length_map]
  have e : (if most < l.length then l.filter fun y => !y.k.over now else l).map It.k = if most < l.length then sweepC (l.map It.k) now else l.map It.k := by
    split
    · exact filter_k l now
    · rfl
  rw [← e]
  obtain ⟨m, hm⟩ : ∃ m, m = (if most < l.length then l.filter fun y => !y.k.over now else l) := ⟨_, rfl⟩
  rw [← hm, List.length_map]
  by_cases h : most < m.length
  · rw [if_pos h, if_pos h, List.map_drop]
  · rw [if_neg h, if_neg h]
theorem wasI_none {l : List It} {k : K3} (h : wasI l k = none) : ∀ y ∈ l, y.k.key ≠ k := by
  intro y hy e
  have := List.find?_eq_none.1 h y hy
  simp [e] at this
theorem putI_length (l : List It) (x : It) : (putI l x).length ≤ l.length + 1 := by
  unfold putI
  split
  · simp
  · unfold repl; simp
theorem JarAt.bump {w : World} {jb mb most next : Nat} {l : List It} (h : JarAt w jb mb most next l) : JarAt (w.setCell ⟨jb, 2, none⟩ (.int .i64 ((next + 1 : Nat) : Int))) jb mb most (next + 1) l := by
  have K : Keeps (fun i => i = jb) w (w.setCell ⟨jb, 2, none⟩ (.int .i64 ((next + 1 : Nat) : Int))) := Keeps.set (S := fun i => i = jb) rfl _ _ _
  exact {
    jar := h.jar.set 2 (by simp) _
    map := by
      obtain ⟨D, h1, h2⟩ := h.map
      exact ⟨D, map_keeps h1 K (fun e => h.jm e.symm), h2⟩
    its := fun x hx => (h.its x hx).keeps K (h.off x hx).1
    off := h.off
    jm := h.jm
    ord := h.ord
    lim := fun x hx => Nat.lt_succ_of_lt (h.lim x hx)
    keys := h.keys
    blks := h.blks
    fit := h.fit
    most := h.most }
theorem JarAt.putNew {w w' : World} {jb mb most next N : Nat} {l : List It} {x : It} {D : DataW Unit} (h : JarAt w jb mb most (next + 1) l) (hw : wasI l x.k.key = none) (hx : CellsAt w x.blk (cellsK x)) (hj : x.blk ≠ jb) (hm : x.blk ≠ mb) (hb : ∀ y ∈ l, y.blk ≠ x.blk)
    (hnum : x.num = next) (hlim : ∀ y ∈ l, y.num < next) (hf : FitC x.k.c ∧ FitK x.k.key ∧ -9223372036854775808 ≤ x.k.till ∧ x.k.till ≤ 9223372036854775807) (hD : Says D l) (own : w'.ownsMap Tryz.prog tKey RJ mb N (D.put (keyT x.k.key) (aL x.blk))) (K : Keeps (fun i => i = mb) w w') :
    JarAt w' jb mb most (next + 1) (putI l x) := by
  have e : putI l x = l ++ [x] := by unfold putI; rw [hw]
  have hno := wasI_none hw
  rw [e]
  exact {
    jar := h.jar.keeps K h.jm
    map := ⟨_, own_says own (hD.putNew hf.2.1 hno), hD.putNew hf.2.1 hno⟩
    its := fun y hy => by
      rw [List.mem_append, List.mem_singleton] at hy
      rcases hy with hy | rfl
      · exact (h.its y hy).keeps K (h.off y hy).2
      · exact hx.keeps K hm
    off := fun y hy => by
      rw [List.mem_append, List.mem_singleton] at hy
      rcases hy with hy | rfl
      · exact h.off y hy
      · exact ⟨hj, hm⟩
    jm := h.jm
    ord := by
      rw [List.pairwise_append]
      refine ⟨h.ord, List.pairwise_singleton _ _, fun a ha b hb => ?_⟩
      rw [List.mem_singleton] at hb
      subst hb
      rw [hnum]; exact hlim a ha
    lim := fun y hy => by
      rw [List.mem_append, List.mem_singleton] at hy
      rcases hy with hy | rfl
      · exact h.lim y hy
      · omega
    keys := by
      rw [List.map_append, List.nodup_append]
      refine ⟨h.keys, by simp, fun a ha b hb => ?_⟩
      simp only [List.map_cons, List.map_nil, List.mem_singleton] at hb
      subst hb
      obtain ⟨y, hy, rfl⟩ := List.mem_map.1 ha
      exact hno y hy
    blks := by
      rw [List.map_append, List.nodup_append]
      refine ⟨h.blks, by simp, fun a ha b hb' => ?_⟩
      simp only [List.map_cons, List.map_nil, List.mem_singleton] at hb'
      subst hb'
      obtain ⟨y, hy, rfl⟩ := List.mem_map.1 ha
      exact hb y hy
    fit := fun y hy => by
      rw [List.mem_append, List.mem_singleton] at hy
      rcases hy with hy | rfl
      · exact h.fit y hy
      · exact hf
    most := h.most }
theorem repl_mem {x y : It} {l : List It} (h : y ∈ repl x l) : y = x ∨ (y ∈ l ∧ y.k.key ≠ x.k.key) := by
  obtain ⟨z, hz, e⟩ := List.mem_map.1 h
  by_cases hk : z.k.key = x.k.key
  · rw [if_pos hk] at e; exact Or.inl e.symm
  · rw [if_neg hk] at e; subst e; exact Or.inr ⟨hz, hk⟩
theorem JarAt.putOld {w w' : World} {jb mb most next N : Nat} {l : List It} {x z : It} {D : DataW Unit} (h : JarAt w jb mb most next l) (hw : wasI l x.k.key = some z) (hx : CellsAt w x.blk (cellsK x)) (hj : x.blk ≠ jb) (hm : x.blk ≠ mb) (hb : ∀ y ∈ l, y.blk ≠ x.blk)
    (hnum : x.num = z.num) (hf : FitC x.k.c ∧ FitK x.k.key ∧ -9223372036854775808 ≤ x.k.till ∧ x.k.till ≤ 9223372036854775807) (hD : Says D l) (own : w'.ownsMap Tryz.prog tKey RJ mb N (D.put (keyT x.k.key) (aL x.blk))) (K : Keeps (fun i => i = mb) w w') :
    JarAt w' jb mb most next (putI l x) := by
  have e : putI l x = repl x l := by unfold putI; rw [hw]
  obtain ⟨hz, hzk⟩ := was_mem hw
  rw [e]
  exact {
    jar := h.jar.keeps K h.jm
    map := ⟨_, own_says own (hD.putOld hf.2.1 ⟨z, hz, hzk⟩), hD.putOld hf.2.1 ⟨z, hz, hzk⟩⟩
    its := fun y hy => by
      rcases repl_mem hy with rfl | ⟨hy, _⟩
      · exact hx.keeps K hm
      · exact (h.its y hy).keeps K (h.off y hy).2
    off := fun y hy => by
      rcases repl_mem hy with rfl | ⟨hy, _⟩
      · exact ⟨hj, hm⟩
      · exact h.off y hy
    jm := h.jm
    ord := by
      have hn : (repl x l).map It.num = l.map It.num := by
        unfold repl
        rw [List.map_map]
        refine List.map_congr_left fun y hy => ?_
        show (if y.k.key = x.k.key then x else y).num = y.num
        split
        · rename_i hk
          rw [hnum, key_inj h.keys hy hz (hk.trans hzk.symm)]
        · rfl
      have h1 : (l.map It.num).Pairwise (· < ·) := List.pairwise_map.2 h.ord
      rw [← hn] at h1
      exact List.pairwise_map.1 h1
    lim := fun y hy => by
      rcases repl_mem hy with rfl | ⟨hy, _⟩
      · rw [hnum]; exact h.lim z hz
      · exact h.lim y hy
    keys := by
      have := repl_key x l
      rw [this]; exact h.keys
    blks := by
      have h2 := nodup_keys h.keys
      have hkeys := h.keys
      have hbl := h.blks
      clear h hD own K hx e hw hz hzk hnum hf
      unfold repl
      induction l with
      | nil => exact List.Pairwise.nil
      | cons y l ih =>
        simp only [List.map_cons, List.nodup_cons] at hkeys hbl h2 ⊢
        have hb2 := hb y (List.mem_cons_self ..)
        refine ⟨?_, ih (fun a ha => hb a (List.mem_cons_of_mem _ ha)) h2.2 hkeys.2 hbl.2⟩
        intro hmem
        rw [List.mem_map] at hmem
        obtain ⟨a, ha, he⟩ := hmem
        obtain ⟨v, hv, rfl⟩ := List.mem_map.1 ha
        by_cases k1 : y.k.key = x.k.key
        · rw [if_pos k1] at he
          by_cases k2 : v.k.key = x.k.key
          · exact hkeys.1 (List.mem_map.2 ⟨v, hv, by rw [k2, k1]⟩)
          · rw [if_neg k2] at he
            exact hb v (List.mem_cons_of_mem _ hv) he
        · rw [if_neg k1] at he
          by_cases k2 : v.k.key = x.k.key
          · rw [if_pos k2] at he
            exact hb2 he.symm
          · rw [if_neg k2] at he
            exact hbl.1 (List.mem_map.2 ⟨v, hv, he⟩)
    fit := fun y hy => by
      rcases repl_mem hy with rfl | ⟨hy, _⟩
      · exact hf
      · exact h.fit y hy
    most := h.most }
end Go.Proofs.YtkenianfpfamcaaGreatDoor
