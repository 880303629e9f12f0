/- Contracts of the document's Fnv and Hex. -/
import Derived.Test.YtjalfddedikibaaGreatDoorTagMaJ
import Derived.Test.YtjalfddedikibaaGreatDoorMd
import Derived.Deep.RegionLaw
namespace Go.Proofs.YtjalfddedikibaaGreatDoor
open Go Go.RowKit
set_option maxHeartbeats 4000000

set_option maxRecDepth 100000 in
theorem rfnv_any (s : ByteArray) (w : World) (hs : s.size ≤ 1048576) : Calls Tryz.prog 37 #[.string s] w fun e w' => e = .returned (.int .u64 (hashI (L s))) ∧ w = w' := by
  have h00 : Hid (hashI ((L s).take 0) = 14695981039346656037) := rfl
  obtain ⟨R, hR⟩ := name_it (hashI (L s))
  rw [hR.out]
  go_enter Tryz.func37, Tryz.ntmps37
  go_wp2_with fail
  go_loop [3, 4] (fun h i => ∃ (k : Nat) (n : Int), k ≤ s.size ∧ i = .int .i64 k ∧ h = .int .u64 n ∧ 0 ≤ n ∧ n < 18446744073709551616 ∧ Hid (hashI ((L s).take k) = n)) (fun _ i => s.size - (intOf i).toNat)
  case atStart => exact ⟨0, _, Nat.zero_le _, rfl, rfl, by omega, by omega, h00⟩
  clear h00
  case round =>
    obtain ⟨k, n, hk, rfl, rfl, h0, h1, hh⟩ := hrel
    by_cases hlt : k < s.size
    · have q0 : (0 : Int) ≤ (k : Int) := by omega
      have q1 : (k : Int) < (s.size : Int) := by omega
      have ht := L_take hlt
      obtain ⟨c, hc⟩ := name_it s[k]
      rw [hc.out] at ht
      have hck := hc.out
      have HN : Hid (hashI ((L s).take (k + 1)) = IntKind.u64.wrap (bits BinOp.xor IntKind.u64 n (IntKind.u64.wrap (c.toNat : Int)) * 1099511628211)) := by
        unfold Hid; rw [ht, hashI_snoc, hh.out]; rfl
      have HW := Lib.hid (wrap64_range (bits BinOp.xor IntKind.u64 n (IntKind.u64.wrap (c.toNat : Int)) * 1099511628211))
      clear ht
      go_wp2_with fail
      all_goals (try (exfalso; omega))
      go_round
      case rel => exact ⟨k + 1, _, by omega, by go_num, rfl, HW.out.1, HW.out.2, HN⟩
      case measure => simp [intOf] <;> omega
    · obtain rfl : k = s.size := by omega
      have hf : Hid (R = n) := by unfold Hid; rw [← hR.out, ← hh.out, L_take_all]
      go_wp2_with fail
      all_goals (try (exfalso; omega))
      go_ret
      exact ⟨ret_int (by rw [hf.out]), rfl⟩

theorem infoU8 : (Tryz.prog.info? 5).map (fun i => (i.zero, i.size, i.bytes)) = some (some (.int .u8 0), 1, 1) := by kernel_rfl
def byV (l : List UInt8) : List Value := l.map fun c => Value.int .u8 (c.toNat : Int)
theorem byV_app (a b : List UInt8) : byV (a ++ b) = byV a ++ byV b := by unfold byV; rw [List.map_append]
theorem byV_len (a : List UInt8) : (byV a).length = a.length := by unfold byV; rw [List.length_map]

/-- 'append(v, x, y ..)', these laid in a new block -/
theorem step_append_m {P : Program} {w : World} {ops : Array Oper} {o : Oper} {a : Act} {K : Act → World → Prop} {Q : Exit → Act → World → Prop} {E : Prop} (hgd : o.guard = none) (s x : Operand) (t : TypeId)
    (ho : o.op = .call { callee := .builtin .append, args := #[s, x], argTypes := #[t, t] })
    (base : Nat) (e : TypeId) (i : TypeInfo) (z : Value) (sz bytes : Nat) (ht : P.underlying t = some (.slice e)) (hi : P.info? e = some i) (hz : i.zero = some z)
    (hsize : i.size = sz) (hby : i.bytes = bytes) (hzs : z.cells.size = sz) (hsz0 : 0 < sz)
    {v : Value} {n : Nat} {xs : List Value} (hown : w.ownsRow base e sz v n xs) (hs : a.eval s = v)
    (m : Nat) (cs : Array Value) (hc8 : cs.size = m * sz) (hu : ∀ u ∈ cs.toList, u.oneCell' = true) {nb : Nat} (hx : a.eval x = .slice (some ⟨nb, 0, none⟩) m m) (hnb : nb = w.heap.size)
    (hn : n + m ≤ maxLen) (hbytes : (n + m) * bytes ≤ 140737488355328) (hbase : base ≤ w.heap.size)
    (h : ∀ v' w', w'.ownsRow base e sz v' (n + m) (xs ++ cs.toList) → Below base w w' → (∀ j, j < w.heap.size → v.ownBlock ≠ some j → w'.heap[j]? = w.heap[j]?) → K (a.put o.dst v') w') :
    if Region.wanted o (yielded ops a.tmps) = true then Oper.wp P o a (w.alloc (.cells cs e)) K Q else E := by
  subst hnb
  have hsz : (w.alloc (.cells cs e)).heap.size = w.heap.size + 1 := Array.size_push ..
  have hw : base ≤ (w.alloc (.cells cs e)).heap.size := by
    rw [hsz]; omega
  refine step_append_at (w := w.alloc (.cells cs e)) hgd s x t ho base e i z sz bytes ht hi hz hsize hby hzs hsz0 v n xs hs (hown.alloc _) ⟨w.heap.size, 0, none⟩ m m cs.toList hx (by simp [hc8]) ?_ hu hn hbytes hw ?_
  · exact World.news_of_block (heap_alloc_new w _)
  · intro v' w' hown' hgrow _ _
    refine h v' w' hown' (((Below.refl _ _).alloc hbase _).trans (own_belowF (hown.alloc _) hgrow hw)) fun j hj hn => ?_
    rw [hgrow.block j (by rw [hsz]; omega) (fun e => hn e.symm)]
    exact ((Below.refl w.heap.size w).alloc (Nat.le_refl _) (.cells cs e)).block j hj

set_option maxRecDepth 100000 in
theorem rhex_any (s : ByteArray) (w : World) (hs : s.size ≤ 1048576) : Calls Tryz.prog 38 #[.string s] w fun e w' => e = .returned (.string (bs (hexL (L s)))) ∧ Below w.heap.size w w' := by
  obtain ⟨i0, hi, hz0, hz1, hz2⟩ := info_parts infoU8
  have z0 : (⟨#[48, 49, 50, 51, 52, 53, 54, 55, 56, 57, 97, 98, 99, 100, 101, 102]⟩ : ByteArray).size = 16 := rfl
  have O0 : Hid ((w.alloc (.cells #[] 5)).ownsRow w.heap.size 5 1 (.slice (some ⟨w.heap.size, 0, none⟩) 0 0) (hexL ((L s).take 0)).length (byV (hexL ((L s).take 0)))) := own_empty w w.heap.size 5 (Nat.le_refl _)
  have B0 : Hid (Below w.heap.size w (w.alloc (.cells #[] 5))) := (Below.refl _ _).alloc (Nat.le_refl _) _
  go_enter Tryz.func38, Tryz.ntmps38
  go_wp2_with fail
  go_loopw [3, 4] (fun out i wr => ∃ (k : Nat), k ≤ s.size ∧ i = .int .i64 k ∧ Hid (wr.ownsRow w.heap.size 5 1 out (hexL ((L s).take k)).length (byV (hexL ((L s).take k)))) ∧ Hid (Below w.heap.size w wr)) (fun _ i _ => s.size - (intOf i).toNat)
  case atStart => exact ⟨0, Nat.zero_le _, rfl, O0, B0⟩
  clear O0 B0
  case round =>
    obtain ⟨k, hk, rfl, hO, hB⟩ := hrel
    obtain ⟨wq, hwq⟩ : ∃ wq, wq = wr := ⟨wr, rfl⟩
    subst hwq
    have HLN : Hid ((hexL ((L s).take k)).length ≤ 2097152) := by
      unfold Hid
      rw [hexL_len, List.length_take]
      omega
    obtain ⟨so, co, hout⟩ := row_slice hO.out
    subst hout
    by_cases hlt : k < s.size
    · have q0 : (0 : Int) ≤ (k : Int) := by omega
      have q1 : (k : Int) < (s.size : Int) := by omega
      have ht := L_take hlt
      obtain ⟨c, hc⟩ := name_it s[k]
      rw [hc.out] at ht
      have hck := hc.out
      have hc0 := c.toNat_lt
      have HT : Hid (hexL ((L s).take (k + 1)) = hexL ((L s).take k) ++ [hexD (c.toNat / 16)] ++ [hexD (c.toNat % 16)]) := by unfold Hid; rw [ht, hexL_snoc]
      have hd1 : c.toNat / 16 < hexS.size := by show _ < 16; omega
      have hd2 : c.toNat % 16 < hexS.size := by show _ < 16; omega
      have E1 := Lib.hid (hexD_eq hd1)
      have E2 := Lib.hid (hexD_eq hd2)
      obtain ⟨acc, hacc⟩ := name_it (hexL ((L s).take k))
      rw [hacc.out] at hO HT HLN ⊢
      clear ht hacc
      have hd := (Below.refl wq.heap.size wq).drew
      have O1 := Lib.hid (row_next hO.out hd)
      have B1 := Lib.hid (hB.out.trans (hd.mono hB.out.size))
      have e1 : (c.toNat : Int) / 16 = ((c.toNat / 16 : Nat) : Int) := by omega
      have e2 : (c.toNat : Int) % 16 = ((c.toNat % 16 : Nat) : Int) := by omega
      have e3 : Int.tmod (c.toNat : Int) 16 = ((c.toNat % 16 : Nat) : Int) := by rw [Int.tmod_eq_emod_of_nonneg (by omega)]; omega
      have n1 : c.toNat / 16 < 16 := by omega
      have n2 : c.toNat % 16 < 16 := by omega
      obtain ⟨qa, hqa⟩ := name_it (c.toNat / 16)
      obtain ⟨qb, hqb⟩ := name_it (c.toNat % 16)
      simp only [hqa.out] at E1 HT e1 n1
      simp only [hqb.out] at E2 HT e2 e3 n2
      have w1 : IntKind.u8.wrap ((c.toNat : Int) / 16) = (qa : Int) := by rw [e1]; exact IntWalk.u8_in _ (by omega)
      have w2 : IntKind.u8.wrap ((c.toNat : Int) % 16) = (qb : Int) := by rw [e2]; exact IntWalk.u8_in _ (by omega)
      have w3 : IntKind.u8.wrap (Int.tmod (c.toNat : Int) 16) = (qb : Int) := by rw [e3]; exact IntWalk.u8_in _ (by omega)
      have n3 : (qa : Int) < 16 := by omega
      have n4 : (qb : Int) < 16 := by omega
      clear e1 e2
      clear hd
      go_wp2_with fail
      all_goals (try (exfalso; omega))
      have hla := HLN.out
      have D1 : Hid ((⟨#[48, 49, 50, 51, 52, 53, 54, 55, 56, 57, 97, 98, 99, 100, 101, 102]⟩ : ByteArray)[qa] = hexD qa) := E1.out.symm
      have D2 : Hid ((⟨#[48, 49, 50, 51, 52, 53, 54, 55, 56, 57, 97, 98, 99, 100, 101, 102]⟩ : ByteArray)[qb] = hexD qb) := E2.out.symm
      go_region_law ((refine step_append_m (by rfl) _ _ 77 (by rfl) w.heap.size 5 i0 (.int .u8 0) 1 1 Tryz.underlying77 hi hz0 hz1 hz2 rfl (by decide) O1.out (by rfl) 2 #[_, _] (by rfl) (by intro u hu; simp only [List.mem_cons, List.not_mem_nil, or_false] at hu; rcases hu with rfl | rfl <;> rfl) (by rfl) (by rfl) (by unfold maxLen; omega) (by omega) B1.out.size ?_; intro v7 w7 hown7 b7 k7))
      all_goals
        have O7 : Hid (w7.ownsRow w.heap.size 5 1 v7 (hexL ((L s).take (k + 1))).length (byV (hexL ((L s).take (k + 1))))) := by
          unfold Hid
          have hlen : (acc ++ [hexD qa] ++ [hexD qb]).length = acc.length + 2 := by simp
          have hv : byV (acc ++ [hexD qa] ++ [hexD qb]) = byV acc ++ [.int .u8 ((hexD qa).toNat : Int), .int .u8 ((hexD qb).toNat : Int)] := by rw [byV_app, byV_app, List.append_assoc]; rfl
          rw [HT.out, hlen, hv]
          have h7 := hown7
          rw [D1.out, D2.out] at h7
          exact h7
        have B7 := Lib.hid (B1.out.trans b7)
        clear hown7 b7 k7
        first | go_wp2_with fail | skip
        go_roundw
        case rel => exact ⟨k + 1, by omega, by go_num, O7, B7⟩
        case measure => simp [intOf] <;> omega
    · obtain rfl : k = s.size := by omega
      rw [L_take_all] at hO ⊢
      have hback := own_string (P := Tryz.prog) 77 9 5 hO.out Tryz.underlying77 Tryz.underlying5 Tryz.underlying9
      go_wp2_with fail
      all_goals (try (exfalso; omega))
      go_ret
      exact ⟨rfl, hB.out⟩
end Go.Proofs.YtjalfddedikibaaGreatDoor
