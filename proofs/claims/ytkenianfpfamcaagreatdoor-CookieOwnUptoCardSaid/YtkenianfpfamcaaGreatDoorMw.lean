/- One cookie in a jar: whom it is sent to: plain. A jar of one cookie: what it sends: plain. All that a jar keeps, as it was set. Contracts of the document's Belongs and Under. -/
import Derived.Test.YtkenianfpfamcaaGreatDoorMk
import Derived.Test.YtkenianfpfamcaaGreatDoorMn
import Derived.Deep.DeepCutAuto
import Derived.Test.YtkenianfpfamcaaGreatDoorMp
import Derived.BigQuiet
namespace Go.Proofs.YtkenianfpfamcaaGreatDoor
open Go Go.RowKit

theorem under_self (p : List UInt8) : underC p p = true := by
  unfold underC
  have h1 : p.isPrefixOf p = true := List.isPrefixOf_iff_prefix.2 (List.prefix_refl p)
  rw [h1]; simp
theorem belongs_self (h : List UInt8) : belongsC h h = true := by
  unfold belongsC; simp
theorem get_one (k : Kp) (host path : List UInt8) (secure : Bool) (now : Int) : getJ [k] host path secure now = if hereC host path secure now k = true then [(k.c.name, k.c.value)] else [] := by
  unfold getJ
  by_cases h : hereC host path secure now k = true
  · rw [if_pos h, List.filter_cons, if_pos h]; rfl
  · rw [if_neg h, List.filter_cons, if_neg h]; rfl
theorem fail_none {c : SetC} {host path : List UInt8} {secure : Bool} {now : Int} (h : failC [] c host path secure now = 0) :
    isMom now = true ∧ wrongC c = 0 ∧ (c.domain = [] ∨ belongsC host c.domain = true) := by
  unfold failC at h
  by_cases h1 : isMom now = false
  · rw [if_pos h1] at h; cases h
  · rw [if_neg h1] at h
    by_cases h2 : wrongC c ≠ 0
    · rw [if_pos h2] at h; exact absurd h h2
    · rw [if_neg h2] at h
      refine ⟨by simpa using h1, by simpa using h2, ?_⟩
      by_cases h3 : c.domain ≠ [] ∧ belongsC host c.domain = false
      · rw [if_pos h3] at h; cases h
      · by_cases h4 : c.domain = []
        · exact Or.inl h4
        · right
          cases h5 : belongsC host c.domain with
          | true => rfl
          | false => exact absurd ⟨h4, h5⟩ h3
theorem set_one {c : SetC} {host path : List UInt8} {secure : Bool} {now : Int} {most : Nat} (hm : 1 ≤ most) (h : failC [] c host path secure now = 0) :
    setJ most [] c host path secure now = [kpOf c host path now] := by
  unfold setJ
  rw [if_pos h]
  have e : putC [] (kpOf c host path now) = [kpOf c host path now] := rfl
  rw [e]
  unfold trimJ
  simp only [List.length_cons, List.length_nil]
  rw [if_neg (show ¬ most < 0 + 1 by omega), if_neg (show ¬ most < [kpOf c host path now].length by show ¬ most < 1; omega)]
/-- over at a moment -/
theorem over_iff (c : SetC) (host path : List UInt8) (now t : Int) : (kpOf c host path now).over t = true ↔ (c.hasMax = true ∧ now + c.maxAge ≤ t) ∨ (c.hasMax = false ∧ c.hasExp = true ∧ c.expires ≤ t) := by
  unfold Kp.over kpOf
  simp only
  cases c.hasMax <;> cases c.hasExp <;> simp
/-- it is sent to whom it is for -/
theorem own_here {c : SetC} {host path own : List UInt8} {secure : Bool} {now t : Int} (h : failC [] c host path secure now = 0) (hp : c.path ≠ []) (ho : own = c.path)
    (hn : (kpOf c host path now).over t = false) : hereC host own true t (kpOf c host path now) = true := by
  obtain ⟨_, _, h3⟩ := fail_none h
  have e1 : (kpOf c host path now).path = c.path := if_neg hp
  unfold hereC
  rw [hn, e1, ho, under_self]
  have e2 : (decide ((kpOf c host path now).dom = host) || (decide ((kpOf c host path now).c.domain ≠ []) && belongsC host (kpOf c host path now).dom)) = true := by
    show (decide ((if c.domain = [] then host else c.domain) = host) || (decide (c.domain ≠ []) && belongsC host (if c.domain = [] then host else c.domain))) = true
    by_cases hd : c.domain = []
    · rw [if_pos hd]; simp
    · rw [if_neg hd]
      rcases h3 with h3 | h3
      · exact absurd h3 hd
      · rw [h3]; simp [hd]
  rw [e2]; rfl
/-- and to nobody else -/
theorem own_only {c : SetC} {host path h p : List UInt8} {now t : Int} {sec : Bool} (hh : hereC h p sec t (kpOf c host path now) = true) :
    (c.domain = [] → h = host) ∧ (c.domain ≠ [] → belongsC h c.domain = true) ∧ (c.path ≠ [] → underC p c.path = true) ∧ (c.secure = true → sec = true) ∧ (kpOf c host path now).over t = false := by
  unfold hereC at hh
  simp only [Bool.and_eq_true, Bool.or_eq_true, Bool.not_eq_true', decide_eq_true_eq] at hh
  obtain ⟨⟨h1, h2, h3⟩, h4⟩ := hh
  refine ⟨fun hd => ?_, fun hd => ?_, fun hp => ?_, fun hs => ?_, h4⟩
  · have e : (kpOf c host path now).dom = host := if_pos hd
    rw [e] at h1
    rcases h1 with h1 | ⟨h1, _⟩
    · exact h1.symm
    · exact absurd hd h1
  · have e : (kpOf c host path now).dom = c.domain := if_neg hd
    rw [e] at h1
    rcases h1 with h1 | ⟨_, h1⟩
    · rw [h1]; exact belongs_self _
    · exact h1
  · have e : (kpOf c host path now).path = c.path := if_neg hp
    rw [e] at h2
    exact h2
  · rcases h3 with h3 | h3
    · exact h3
    · have : c.secure = false := h3
      rw [hs] at this; cases this
end Go.Proofs.YtkenianfpfamcaaGreatDoor
namespace Go.Proofs.YtkenianfpfamcaaGreatDoor
open Go Go.RowKit

theorem get_over {k : Kp} {h p : List UInt8} {s : Bool} {t : Int} (ho : k.over t = true) : getJ [k] h p s t = [] := by
  rw [get_one, if_neg]
  intro hh
  unfold hereC at hh
  rw [ho] at hh
  simp at hh
theorem get_unsec {c : SetC} {host path h p : List UInt8} {now t : Int} (hs : c.secure = true) : getJ [kpOf c host path now] h p false t = [] := by
  rw [get_one, if_neg]
  intro hh
  have := (own_only hh).2.2.2.1 hs
  cases this
theorem get_own {c : SetC} {host path own : List UInt8} {secure : Bool} {now t : Int} (h : failC [] c host path secure now = 0) (hp : c.path ≠ []) (ho : own = c.path)
    (hn : (kpOf c host path now).over t = false) : getJ [kpOf c host path now] host own true t = [(c.name, c.value)] := by
  rw [get_one, if_pos (own_here h hp ho hn)]
  rfl
theorem get_two (c : SetC) (host path h p : List UInt8) (now t : Int) (s : Bool) : getJ [kpOf c host path now] h p s t = [] ∨ (hereC h p s t (kpOf c host path now) = true ∧ getJ [kpOf c host path now] h p s t = [(c.name, c.value)]) := by
  rw [get_one]
  by_cases hh : hereC h p s t (kpOf c host path now) = true
  · rw [if_pos hh]
    exact Or.inr ⟨hh, rfl⟩
  · rw [if_neg hh]
    exact Or.inl rfl
theorem mom_bounds {n : Int} (h : isMom n = true) : -62135596800 ≤ n ∧ n ≤ 253402300799 := by
  unfold isMom at h
  simpa using h
theorem right_age {c : SetC} (h : wrongC c = 0) : 0 ≤ c.maxAge ∧ c.maxAge ≤ 34560000 := by
  unfold wrongC at h
  by_cases h1 : rightC c.name c.value = false
  · rw [if_pos h1] at h; cases h
  · rw [if_neg h1] at h
    by_cases h2 : badC c
    · rw [if_pos h2] at h; cases h
    · unfold badC at h2
      constructor
      · rcases Int.lt_or_le c.maxAge 0 with h3 | h3
        · exact absurd (by simp [h3]) h2
        · exact h3
      · rcases Int.lt_or_le 34560000 c.maxAge with h3 | h3
        · exact absurd (by simp [h3]) h2
        · exact h3
end Go.Proofs.YtkenianfpfamcaaGreatDoor
namespace Go.Proofs.YtkenianfpfamcaaGreatDoor
open Go Go.RowKit
set_option maxHeartbeats 4000000

theorem infoS : (Tryz.prog.info? tS).map (fun i => (i.zero, i.size, i.bytes)) = some (some (.agg #[.string ⟨#[]⟩, .string ⟨#[]⟩, .string ⟨#[]⟩, .string ⟨#[]⟩, .int .i64 0, .bool false, .int .i64 0, .bool false, .bool false, .bool false, .int .i64 0]), 11, 104) := by kernel_rfl
abbrev tSs : TypeId := 68
def rowS (l : List SetC) : List Value := l.flatMap cellsS
theorem rowS_snoc (l : List SetC) (c : SetC) : rowS (l ++ [c]) = rowS l ++ cellsS c := by unfold rowS; simp
def SetRow (w : World) (base : Nat) (v : Value) (l : List SetC) : Prop := w.ownsRow base tS 11 v l.length (rowS l)
def allI (l : List It) : List SetC := l.map fun x => { x.k.c with path := x.k.path }
theorem allI_k (l : List It) : allI l = allJ (l.map It.k) := by unfold allI allJ; rw [List.map_map]; rfl
theorem cellsS_one (c : SetC) : ∀ u ∈ cellsS c, u.oneCell' = true := by
  intro u hu
  unfold cellsS at hu
  simp only [List.mem_cons, List.not_mem_nil, or_false] at hu
  rcases hu with rfl | rfl | rfl | rfl | rfl | rfl | rfl | rfl | rfl | rfl | rfl <;> rfl
/-- 'append(v, x)', x a struct, v of the call's own -/
theorem appendS {P : Program} {w : World} {ops : Array Oper} {rest : List Oper} {o : Oper} {a : Act} {Q : Exit → Act → World → Prop} (hgd : o.guard = none) (s x : Operand) (t : TypeId)
    (ho : o.op = .call { callee := .builtin .append, args := #[s, x], argTypes := #[t, t] })
    (base : Nat) (e : TypeId) (i : TypeInfo) (z : Value) (n bytes : Nat) (ht : P.underlying t = some (.slice e)) (hi : P.info? e = some i) (hz : i.zero = some z)
    (hsize : i.size = n) (hby : i.bytes = bytes) (hzs : z.cells.size = n) (hn0 : 0 < n)
    {v : Value} {m : Nat} {xs : List Value} (hown : w.ownsRow base e n v m xs) (hs : a.eval s = v)
    (us : List Value) (hul : us.length = n) (hu : ∀ u ∈ us, u.oneCell' = true) (hx : a.eval x = .slice (some ⟨w.heap.size, 0, none⟩) 1 1)
    (hn : m + 1 ≤ maxLen) (hbytes : (m + 1) * bytes ≤ 140737488355328) (hbase : base ≤ w.heap.size)
    (h : ∀ g cap w', base ≤ g → w'.ownsRow base e n (.slice (some ⟨g, 0, none⟩) (m + 1) cap) (m + 1) (xs ++ us) → Below base w w' → wpList P ops Q rest (a.put o.dst (.slice (some ⟨g, 0, none⟩) (m + 1) cap)) w') :
    wpList P ops Q (o :: rest) a (w.alloc (.cells us.toArray e)) := by
  have hw : base ≤ (w.alloc (.cells us.toArray e)).heap.size := by
    show base ≤ (w.heap.push _).size
    rw [Array.size_push]; omega
  refine wpList_append_own (w.alloc (.cells us.toArray e)) hgd s x t ho base e i z n bytes ht hi hz hsize hby hzs hn0 v m xs hs (hown.alloc _) ⟨w.heap.size, 0, none⟩ 1 1 us hx (by rw [hul, Nat.one_mul]) ?_ hu hn hbytes hw ?_
  · intro j y hj
    rw [Addr.add_lit]
    have := (CellsAt.first w us e).at j y hj
    simpa using this
  · intro v' w' hown' hgrow _
    rcases hown'.2 with ⟨_, h0⟩ | ⟨g, cap, cur, rfl, hg, _⟩
    · omega
    · exact h g cap w' hg hown' (((Below.refl _ _).alloc hbase _).trans (own_below (hown.alloc _) hgrow hw))
set_option maxRecDepth 100000 in
theorem all_any (w : World) (jb mb most next : Nat) (l : List It) (hJ : JarAt w jb mb most next l) (hn : next ≤ 1099511627776) (hl : l.length ≤ 1048576) :
    Calls Tryz.prog 28 #[ptrV jb] w fun e w' => (∃ v, e = .returned v ∧ SetRow w' w.heap.size v (allI l)) ∧ Below w.heap.size w w' := by
  have ORD := Lib.hid (order_any w jb mb most next l hJ hn (by omega))
  have J := Lib.hid hJ
  obtain ⟨i1, ci, cz0, cz1, cz2⟩ := info_parts infoS
  clear hJ
  unfold ptrV at ORD ⊢
  go_enter Tryz.func28, Tryz.ntmps28
  go_wp2_with fail
  refine ORD.out.mono ?_; rintro e w1 ⟨⟨v, rfl, sp, cap, rfl, hsp⟩, hb1⟩
  have J1 := Lib.hid (J.out.next_ hb1)
  have B1 := Lib.hid hb1
  have GW1 : Hid (w.heap.size ≤ w1.heap.size) := hb1.size
  have HSP := Lib.hid hsp
  rw [List.length_map]
  clear ORD J hsp hb1
  go_wp2_with fail
  have R0 : Hid (w1.ownsRow w1.heap.size tS 11 (.slice none 0 0) (allI (l.take 0)).length (rowS (allI (l.take 0)))) := World.ownsRow_nil ..
  go_loopw [3, 5, 9] (fun out _ i wr => ∃ k : Nat, k ≤ l.length ∧ i = .int .i64 k ∧ Hid (wr.ownsRow w1.heap.size tS 11 out (allI (l.take k)).length (rowS (allI (l.take k)))) ∧ Hid (Below w1.heap.size w1 wr)) (fun _ _ i _ => l.length - (intOf i).toNat)
  case atStart => exact ⟨0, Nat.zero_le _, rfl, R0, Below.refl _ _⟩
  clear R0
  case round =>
    obtain ⟨k, hk, rfl, hR, hB⟩ := hrel
    obtain ⟨wq, hwq⟩ : ∃ wq, wq = wr := ⟨wr, rfl⟩
    subst hwq
    by_cases hlt : k < l.length
    · obtain ⟨g, rfl, hg1, hg2, hg3⟩ := ptr_cons1 HSP.out (by rw [List.length_map]; omega)
      have CG : wq.cell? ⟨g, k, none⟩ = some (.pointer (some ⟨l[k].blk, 0, none⟩)) := by
        rw [hB.out.cell (p := ⟨g, k, none⟩) hg2, hg3 k (by rw [List.length_map]; exact hlt), List.getElem_map]; rfl
      have hmem : l[k] ∈ l := List.getElem_mem hlt
      have CX := Lib.hid ((J1.out.its _ hmem).next hB.out)
      have htk : allI (l.take (k + 1)) = allI (l.take k) ++ [{ l[k].k.c with path := l[k].k.path }] := by
        rw [List.take_succ_eq_append_getElem hlt]; unfold allI; rw [List.map_append]; rfl
      have HLK : Hid ((allI (l.take k)).length = k) := by unfold Hid allI; rw [List.length_map, List.length_take]; omega
      obtain ⟨x, hx⟩ := name_it l[k]
      rw [hx.out] at CG CX htk
      have HSK := Lib.hid htk
      obtain ⟨acc, hacc⟩ := name_it (allI (l.take k))
      rw [hacc.out] at hR HSK HLK
      obtain ⟨so2, co2, hout2⟩ := row_slice hR.out
      subst hout2
      obtain ⟨c, hc⟩ := name_it ({ x.k.c with path := x.k.path } : SetC)
      have CX2 : Hid (∀ i v, (cellsS c)[i]? = some v → wq.cell? ⟨x.blk, i, none⟩ = some v) := fun i v h => CX.out.at i v (by
        unfold cellsK
        rw [hc.out, List.getElem?_append_left (List.getElem?_eq_some_iff.1 h).1]; exact h)
      rw [hc.out] at HSK
      clear CX hc hx hmem hg3 htk hacc
      have z0 : wq.cell? ⟨x.blk, 0, none⟩ = some (.string (bs c.name)) := CX2.out 0 _ rfl
      have z1 : wq.cell? ⟨x.blk, 1, none⟩ = some (.string (bs c.value)) := CX2.out 1 _ rfl
      have z2 : wq.cell? ⟨x.blk, 2, none⟩ = some (.string (bs c.path)) := CX2.out 2 _ rfl
      have z3 : wq.cell? ⟨x.blk, 3, none⟩ = some (.string (bs c.domain)) := CX2.out 3 _ rfl
      have z4 : wq.cell? ⟨x.blk, 4, none⟩ = some (.int .i64 c.maxAge) := CX2.out 4 _ rfl
      have z5 : wq.cell? ⟨x.blk, 5, none⟩ = some (.bool c.hasMax) := CX2.out 5 _ rfl
      have z6 : wq.cell? ⟨x.blk, 6, none⟩ = some (.int .i64 c.expires) := CX2.out 6 _ rfl
      have z7 : wq.cell? ⟨x.blk, 7, none⟩ = some (.bool c.hasExp) := CX2.out 7 _ rfl
      have z8 : wq.cell? ⟨x.blk, 8, none⟩ = some (.bool c.secure) := CX2.out 8 _ rfl
      have z9 : wq.cell? ⟨x.blk, 9, none⟩ = some (.bool c.http) := CX2.out 9 _ rfl
      have z10 : wq.cell? ⟨x.blk, 10, none⟩ = some (.int .i64 c.same) := CX2.out 10 _ rfl
      have hBd : w1.heap.size ≤ wq.heap.size := hB.out.size
      go_wp2_with (at_builtin; refine appendS (by rfl) _ _ tSs (by rfl) w1.heap.size tS i1 (.agg #[.string ⟨#[]⟩, .string ⟨#[]⟩, .string ⟨#[]⟩, .string ⟨#[]⟩, .int .i64 0, .bool false, .int .i64 0, .bool false, .bool false, .bool false, .int .i64 0]) 11 104 Tryz.underlying68 ci cz0 cz1 cz2 rfl (by decide) hR.out (by rfl) (cellsS c) rfl (cellsS_one c) (by rfl) (by have := HLK.out; unfold maxLen; omega) (by have := HLK.out; omega) hBd ?_)
      all_goals (try (exfalso; omega))
      intro g7 cap7 w7 hg7 hown7 hb7
      have Q7 : Hid (w7.ownsRow w1.heap.size tS 11 (.slice (some ⟨g7, 0, none⟩) (acc.length + 1) cap7) (allI (l.take (k + 1))).length (rowS (allI (l.take (k + 1))))) := by
        rw [HSK.out, List.length_append, List.length_singleton, rowS_snoc]; exact hown7
      have B7 := Lib.hid (hB.out.trans hb7)
      clear hown7 hb7
      go_wp2_with fail
      go_roundw
      case rel => exact ⟨k + 1, by omega, by go_num, Q7, B7⟩
      case measure => simp [intOf]; omega
    · obtain rfl : k = l.length := by omega
      rw [List.take_length] at hR
      have R9 : Hid (∀ v n xs, wq.ownsRow w1.heap.size tS 11 v n xs → wq.ownsRow w.heap.size tS 11 v n xs) := fun v n xs h => World.ownsRow.mono h GW1.out
      go_wp2_with fail
      all_goals (try (exfalso; omega))
      go_ret
      exact ⟨⟨_, rfl, R9.out _ _ _ hR.out⟩, B1.out.trans (hB.out.mono GW1.out)⟩
end Go.Proofs.YtkenianfpfamcaaGreatDoor
namespace Go.Proofs.YtkenianfpfamcaaGreatDoor
open Go Go.RowKit
set_option maxHeartbeats 4000000

theorem hostB_iff (c : UInt8) : hostB c = true ↔ (c.toNat = 46 ∨ (48 ≤ c.toNat ∧ c.toNat ≤ 57)) := by unfold hostB; exact decide_eq_true_iff
set_option maxRecDepth 100000 in
theorem rhostnum_any (s : ByteArray) (w : World) (hs : s.size ≤ maxLen) : Calls Tryz.prog 78 #[.string s] w fun e w' => e = .returned (.bool (numberC (L s))) ∧ w = w' := by
  unfold maxLen at hs
  have HR0 : Hid (numberC (L s) = (bracket (L s) || (L s).all hostB)) := rfl
  rw [HR0.out]
  clear HR0
  have hbr : bracket (L s) = decide ((L s).head? = some 91) := rfl
  obtain ⟨A, hA⟩ := name_it ((L s).all hostB)
  obtain ⟨B, hB⟩ := name_it (bracket (L s))
  rw [hA.out, hB.out]
  rw [hB.out] at hbr
  have hE := str_empty s
  have hF : (s.size = 0 ∧ s.toList.isEmpty = true ∧ B = false) ∨ (∃ h : 0 < s.size, s.toList.isEmpty = false ∧ B = ((s[0].toNat : Int) == 91)) := by
    by_cases hz : s.size = 0
    · have hn : L s = [] := List.eq_nil_of_length_eq_zero (by rw [L_length]; exact hz)
      exact Or.inl ⟨hz, by rw [hE, hn]; rfl, by rw [hbr, hn]; rfl⟩
    · have hn : L s ≠ [] := fun e => hz (by rw [← L_length, e]; rfl)
      refine Or.inr ⟨by omega, by rw [hE]; exact decide_eq_false hn, ?_⟩
      rw [hbr]
      have := head_get s 91 (by omega)
      rw [decide_not] at this
      exact Bool.not_inj this
  clear hbr hE hB
  rcases hF with ⟨hz, h1, rfl⟩ | ⟨hz, h1, h2⟩
  rotate_left
  · cases hc : ((s[0].toNat : Int) == 91)
    · rw [hc] at h2
      subst h2
      go_enter Tryz.func78, Tryz.ntmps78
      go_wp2_with fail
      all_goals (try (exfalso; omega))
      go_loop [3] (fun i => ∃ k : Nat, k ≤ s.size ∧ i = .int .i64 k ∧ Hid (((L s).drop k).all hostB = A)) (fun i => s.size - (intOf i).toNat)
      case atStart => exact ⟨0, Nat.zero_le _, rfl, hA⟩
      clear hA h1 hc
      case round =>
        obtain ⟨k, hk, rfl, hr⟩ := hrel
        by_cases hlt : k < s.size
        · have hi := hostB_iff s[k]
          cases hb : hostB s[k]
          · have hr2 := hr.out
            rw [L_drop hlt, List.all_cons, hb] at hr2
            rw [hb] at hi
            have HI : Hid (¬ (s[k].toNat = 46 ∨ (48 ≤ s[k].toNat ∧ s[k].toNat ≤ 57))) := fun h => by have := hi.2 h; cases this
            have HR : Hid (A = false) := by rw [← hr2]; rfl
            clear hr2 hr hi hb
            go_wp2_with fail
            all_goals (try (exfalso; have := HI.out; omega))
            all_goals
              go_ret
              exact ⟨ret_bool (by rw [HR.out]; try rfl), rfl⟩
          · have hr2 := hr.out
            rw [L_drop hlt, List.all_cons, hb] at hr2
            have HI := Lib.hid (hi.1 hb)
            have HR := Lib.hid hr2; clear hr2 hr hi hb
            go_wp2_with fail
            all_goals (try (exfalso; have := HI.out; omega))
            all_goals
              first
              | exact ⟨⟨k + 1, by omega, by go_num, Lib.hid (by have h := HR.out; simpa using h)⟩, by simp [intOf] <;> omega⟩
              | (go_round
                 case rel => exact ⟨k + 1, by omega, by go_num, Lib.hid (by have h := HR.out; simpa using h)⟩
                 case measure => simp [intOf] <;> omega)
        · obtain rfl : k = s.size := by omega
          rw [L_drop_all] at hr
          have HR : Hid (A = true) := hr.out.symm
          clear hr
          go_wp2_with fail
          all_goals (try (exfalso; omega))
          all_goals
            go_ret
            exact ⟨ret_bool (by rw [HR.out]; try rfl), rfl⟩
    · rw [hc] at h2
      subst h2
      go_enter Tryz.func78, Tryz.ntmps78
      go_wp2_with fail
      all_goals (try (exfalso; omega))
      go_ret
      exact ⟨ret_bool rfl, rfl⟩
  · have hA2 : Hid (A = true) := by
      have hn : L s = [] := List.eq_nil_of_length_eq_zero (by rw [L_length]; exact hz)
      rw [← hA.out, hn]; exact rfl
    clear hA
    go_enter Tryz.func78, Tryz.ntmps78
    go_wp2_with fail
    all_goals (try (exfalso; omega))
    go_loop [3] (fun i => i = .int .i64 0) (fun _ => 0)
    case atStart => rfl
    case round =>
      subst hrel
      go_wp2_with fail
      all_goals (try (exfalso; omega))
      go_ret
      exact ⟨ret_bool (by rw [hA2.out]; try rfl), rfl⟩
theorem suffix_drop (a b : List UInt8) (k : Nat) (h : b.length = a.length + k) : a.isSuffixOf b = decide (b.drop k = a) := by
  rw [Bool.eq_iff_iff, List.isSuffixOf_iff_suffix, decide_eq_true_eq, List.suffix_iff_eq_drop]
  have : b.length - a.length = k := by omega
  rw [this]
  exact eq_comm
set_option maxRecDepth 100000 in
theorem rbelongs_any (s t : ByteArray) (w : World) (hs : s.size ≤ 1073741824) (ht : t.size ≤ 1073741824) : Calls Tryz.prog 35 #[.string s, .string t] w fun e w' => e = .returned (.bool (belongsC (L s) (L t))) ∧ w = w' := by
  have HN := Lib.hid (fun wx => rhostnum_any s wx (by unfold maxLen; omega))
  have hR : Hid (belongsC (L s) (L t) = (decide (L s = L t) || (!numberC (L s) && (46 :: L t).isSuffixOf (L s)))) := rfl
  have hq := str_eq s t
  have hls := L_length s
  have hlt := L_length t
  rw [hR.out]
  have hC0 : (∃ k : Nat, (s.size : Int) - t.size - 1 = k ∧ (46 :: L t).isSuffixOf (L s) = ((s.extract k s.size).toList == ((⟨#[46]⟩ : ByteArray) ++ t).toList)) ∨ ((s.size : Int) - t.size - 1 < 0 ∧ (46 :: L t).isSuffixOf (L s) = false) := by
    by_cases h : t.size + 1 ≤ s.size
    · refine Or.inl ⟨s.size - t.size - 1, by omega, ?_⟩
      rw [suffix_drop _ _ (s.size - t.size - 1) (by rw [List.length_cons]; omega), str_eq]
      have e1 : L ((⟨#[46]⟩ : ByteArray) ++ t) = 46 :: L t := by
        have := bs_append [46] (L t)
        have h2 : L (bs [46] ++ bs (L t)) = [46] ++ L t := by rw [this, L_bs]
        exact h2
      rw [e1, extract_tail, L_bs]
    · refine Or.inr ⟨by omega, ?_⟩
      cases hx : (46 :: L t).isSuffixOf (L s) with
      | false => rfl
      | true =>
        have := (List.isSuffixOf_iff_suffix.1 hx).length_le
        rw [List.length_cons] at this
        omega
  obtain ⟨A, hA⟩ := name_it (decide (L s = L t))
  obtain ⟨B, hB⟩ := name_it (numberC (L s))
  obtain ⟨C, hC⟩ := name_it ((46 :: L t).isSuffixOf (L s))
  rw [hA.out] at hq
  simp only [hC.out] at hC0
  rw [hA.out, hB.out, hC.out]
  simp only [hB.out] at HN
  clear hR hA hB hC hls hlt
  cases A
  · rcases hC0 with ⟨k, hk, hc⟩ | ⟨hk, hc⟩
    · obtain ⟨X, hX⟩ : ∃ X, s.extract k s.size = X := ⟨_, rfl⟩
      obtain ⟨Y, hY⟩ : ∃ Y, (⟨#[46]⟩ : ByteArray) ++ t = Y := ⟨_, rfl⟩
      rw [hX, hY] at hc
      have hc2 : (X.toList == Y.toList) = C := hc.symm
      clear hc
      cases B
      all_goals
        go_enter Tryz.func35, Tryz.ntmps35
        go_wp2_with fail
        refine (HN.out _).mono ?_; rintro e w1 ⟨rfl, rfl⟩
        go_wp2_with fail
        all_goals (try (exfalso; omega))
        go_ret
        exact ⟨ret_bool (by simp), rfl⟩
    · subst hc
      cases B
      all_goals
        go_enter Tryz.func35, Tryz.ntmps35
        go_wp2_with fail
        refine (HN.out _).mono ?_; rintro e w1 ⟨rfl, rfl⟩
        go_wp2_with fail
        all_goals (try (exfalso; omega))
        go_ret
        exact ⟨ret_bool (by simp), rfl⟩
  · clear hC0
    go_enter Tryz.func35, Tryz.ntmps35
    go_wp2_with fail
    go_ret
    exact ⟨ret_bool (by simp), rfl⟩
theorem last_get (s : ByteArray) (c : UInt8) (j : Nat) (h : s.size = j + 1) : decide ((L s).getLast? = some c) = ((s[j].toNat : Int) == c.toNat) := by
  have hl := L_length s
  have e : (L s).getLast? = some s[j] := by
    rw [List.getLast?_eq_getElem?, hl]
    have hj : s.size - 1 = j := by omega
    rw [hj]
    have h1 := L_drop (s := s) (k := j) (by omega)
    have h2 : ((L s).drop j)[0]? = some s[j] := by rw [h1]; rfl
    simpa using h2
  rw [e, Bool.eq_iff_iff]
  simp [← UInt8.toNat_inj]
  omega
set_option maxRecDepth 100000 in
theorem runder_any (p c : ByteArray) (w : World) (_ : p.size ≤ 1073741824) (hc : c.size ≤ 1073741824) : Calls Tryz.prog 36 #[.string p, .string c] w fun e w' => e = .returned (.bool (underC (L p) (L c))) ∧ w = w' := by
  have hR : Hid (underC (L p) (L c) = ((L c).isPrefixOf (L p) && (decide ((L p).length = (L c).length) || (decide ((L c).getLast? = some 47) || decide (((L p).drop (L c).length).head? = some 47))))) := rfl
  have hq := str_eq p c
  have hlp := L_length p
  have hlc := L_length c
  by_cases he : L p = L c
  · have hR2 : Hid (underC (L p) (L c) = true) := by rw [he]; exact under_self _
    rw [decide_eq_true he] at hq
    rw [hR2.out]
    clear hR hlp hlc he
    go_enter Tryz.func36, Tryz.ntmps36
    go_wp2_with fail
    go_ret
    exact ⟨rfl, rfl⟩
  · rw [decide_eq_false he] at hq
    by_cases hle : p.size ≤ c.size
    · have hR2 : Hid (underC (L p) (L c) = false) := by
        unfold Hid
        rw [hR.out]
        cases hx : (L c).isPrefixOf (L p) with
        | false => rfl
        | true =>
          have h1 := List.isPrefixOf_iff_prefix.1 hx
          exact absurd (h1.eq_of_length_le (by omega)).symm he
      rw [hR2.out]
      clear hR hlp hlc he
      go_enter Tryz.func36, Tryz.ntmps36
      go_wp2_with fail
      all_goals (try (exfalso; omega))
      go_ret
      exact ⟨rfl, rfl⟩
    · have hpx : (L c).isPrefixOf (L p) = ((p.extract 0 c.size).toList == c.toList) := by
        rw [str_eq, extract_head, L_bs, ← hlc, Bool.eq_iff_iff, List.isPrefixOf_iff_prefix, decide_eq_true_eq, List.prefix_iff_eq_take]
        exact eq_comm
      have hlen : decide ((L p).length = (L c).length) = false := decide_eq_false (by omega)
      have hltc : c.size < p.size := Nat.lt_of_not_le hle
      have hH : decide (((L p).drop (L c).length).head? = some 47) = (((p[c.size]'hltc).toNat : Int) == 47) := by
        rw [hlc, L_drop (by omega), List.head?_cons, Bool.eq_iff_iff]
        simp [← UInt8.toNat_inj]
        omega
      have hG : (c.size = 0 ∧ c.toList.isEmpty = true ∧ decide ((L c).getLast? = some 47) = false) ∨ (∃ (j : Nat) (h : c.size = j + 1), (c.size : Int) - 1 = j ∧ c.toList.isEmpty = false ∧ decide ((L c).getLast? = some 47) = (((c[j]'(h ▸ Nat.lt_succ_self j)).toNat : Int) == 47)) := by
        have hE := str_empty c
        by_cases hz : c.size = 0
        · have hn : L c = [] := List.eq_nil_of_length_eq_zero (by rw [L_length]; exact hz)
          exact Or.inl ⟨hz, by rw [hE, hn]; rfl, by rw [hn]; rfl⟩
        · have hn : L c ≠ [] := fun e => hz (by rw [← L_length, e]; rfl)
          exact Or.inr ⟨c.size - 1, by omega, by omega, by rw [hE]; exact decide_eq_false hn, last_get c 47 (c.size - 1) (by omega)⟩
      rw [hR.out, hlen, hH, hpx, Bool.false_or]
      obtain ⟨G, hGn⟩ := name_it (decide ((L c).getLast? = some 47))
      simp only [hGn.out] at hG ⊢
      obtain ⟨X, hX⟩ : ∃ X, p.extract 0 c.size = X := ⟨_, rfl⟩
      rw [hX]
      clear hR hlen hH hpx hGn hlp he
      cases hp2 : (X.toList == c.toList)
      · clear hG
        go_enter Tryz.func36, Tryz.ntmps36
        go_wp2_with fail
        all_goals (try (exfalso; omega))
        go_ret
        exact ⟨ret_bool (by simp), rfl⟩
      · rcases hG with ⟨hz, h1, rfl⟩ | ⟨j, hj, hj2, h1, h2⟩
        · clear hz hlc
          cases h4 : (((p[c.size]'hltc).toNat : Int) == 47)
          all_goals
            go_enter Tryz.func36, Tryz.ntmps36
            go_wp2_with fail
            all_goals (try (exfalso; omega))
            all_goals
              go_ret
              exact ⟨ret_bool (by first | rfl | simp), rfl⟩
        · have hjb : j < c.size := hj ▸ Nat.lt_succ_self j
          have h3 : (((c[j]'hjb).toNat : Int) == 47) = G := h2.symm
          clear hj h2 hlc
          cases h4 : (((p[c.size]'hltc).toNat : Int) == 47)
          all_goals
            cases G
            all_goals
              go_enter Tryz.func36, Tryz.ntmps36
              go_wp2_with fail
              all_goals (try (exfalso; omega))
              all_goals
                go_ret
                exact ⟨ret_bool (by first | rfl | simp), rfl⟩
end Go.Proofs.YtkenianfpfamcaaGreatDoor
