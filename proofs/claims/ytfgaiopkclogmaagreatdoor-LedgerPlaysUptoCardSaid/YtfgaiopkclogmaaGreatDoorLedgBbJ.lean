/- Books of ledger: Add. -/
import Derived.Test.YtfgaiopkclogmaaGreatDoorLedgBaJ
import Derived.Deep.RegionLaw
import Derived.Deep.RegionHeld3
namespace Go.Proofs.YtfgaiopkclogmaaGreatDoor
open Go Go.RowKit Go.MuLone
set_option maxHeartbeats 4000000

theorem own_belowL {w w' : World} {base : Nat} {e : TypeId} {size n : Nat} {v : Value} {xs : List Value} (h : w.ownsRow base e size v n xs) (hg : w.grownBy w' v.ownBlock) (hw : base ≤ w.heap.size) : Below base w w' := by
  refine ⟨hg.os, hg.tape, hg.output, hg.size, fun i hi => hg.block i (Nat.lt_of_lt_of_le hi hw) (fun hc => ?_)⟩
  have := (World.ownsRow.lt h i hc.symm).1
  omega
/-- 'append(v, x)' at a step of a region that draws, x a struct of eight cells -/
theorem step_append8 {P : Program} {w : World} {ops : Array Oper} {o : Oper} {a : Act} {K : Act → World → Prop} {Q : Exit → Act → World → Prop} {E : Prop} (hgd : o.guard = none) (s x : Operand) (t : TypeId)
    (ho : o.op = .call { callee := .builtin .append, args := #[s, x], argTypes := #[t, t] })
    (base : Nat) (e : TypeId) (i : TypeInfo) (z : Value) (bytes : Nat) (ht : P.underlying t = some (.slice e)) (hi : P.info? e = some i) (hz : i.zero = some z)
    (hsize : i.size = 8) (hby : i.bytes = bytes) (hzs : z.cells.size = 8)
    {v : Value} {n : Nat} {xs : List Value} (hown : w.ownsRow base e 8 v n xs) (hs : a.eval s = v)
    (u1 u2 u3 u4 u5 u6 u7 u8 : Value) (hu : ∀ u ∈ [u1, u2, u3, u4, u5, u6, u7, u8], u.oneCell' = true) (hx : a.eval x = .slice (some ⟨w.heap.size, 0, none⟩) 1 1)
    (hn : n + 1 ≤ maxLen) (hbytes : (n + 1) * bytes ≤ 140737488355328) (hbase : base ≤ w.heap.size)
    (h : ∀ g cap w', base ≤ g → w'.ownsRow base e 8 (.slice (some ⟨g, 0, none⟩) (n + 1) cap) (n + 1) (xs ++ [u1, u2, u3, u4, u5, u6, u7, u8]) → (v.ownBlock = some g ∨ w.heap.size ≤ g) → Keeps (fun j => v.ownBlock = some j) w w' → K (a.put o.dst (.slice (some ⟨g, 0, none⟩) (n + 1) cap)) w') :
    if Region.wanted o (yielded ops a.tmps) = true then Oper.wp P o a (w.alloc (.cells #[u1, u2, u3, u4, u5, u6, u7, u8] e)) K Q else E := by
  have hsz : (w.alloc (.cells #[u1, u2, u3, u4, u5, u6, u7, u8] e)).heap.size = w.heap.size + 1 := Array.size_push ..
  have hw : base ≤ (w.alloc (.cells #[u1, u2, u3, u4, u5, u6, u7, u8] e)).heap.size := by
    rw [hsz]; omega
  refine step_append_lies (w.alloc (.cells #[u1, u2, u3, u4, u5, u6, u7, u8] e)) hgd s x t ho base e i z 8 bytes ht hi hz hsize hby hzs (by decide) v n xs hs (hown.alloc _) ⟨w.heap.size, 0, none⟩ 1 1 [u1, u2, u3, u4, u5, u6, u7, u8] hx rfl ?_ hu (by decide) hn hbytes hw _ rfl ?_
  · exact World.news_of_block (heap_alloc_new w _)
  · intro g cap w' hown' hgrow hat _
    refine h g cap w' ?_ hown' ?_ ⟨hgrow.os, hgrow.tape, hgrow.output, Nat.le_trans (by rw [hsz]; omega) hgrow.size, fun j hj hne => ?_⟩
    · exact (World.ownsRow.lt hown' g rfl).1
    · rcases hat with h | h
      · exact Or.inl h
      · right; rw [h, hsz]; omega
    · rw [hgrow.block j (by rw [hsz]; omega) (Ne.symm hne)]
      exact ((Below.refl w.heap.size w).alloc (Nat.le_refl _) _).block j hj
theorem infoEntry : (Tryz.prog.info? 32).map (fun i => (i.zero, i.size, i.bytes)) = some (some (.agg #[.string ⟨#[]⟩, .int .i64 0, .int .i64 0, .string ⟨#[]⟩, .string ⟨#[]⟩, .int .i64 0, .int .i64 0, .int .i64 0]), 8, 88) := by kernel_rfl

def visE (e : En) : Value := .agg #[.int .i64 e.conn, .int .i64 e.numb, .string (bs e.meth), .string (bs e.tgt), .int .i64 e.stat, .int .i64 e.byts, .int .i64 e.tick]
/-- an entry has been added to a book -/
def Added (w : World) (b : Nat) (v : Value) (l : List En) (e : En) (w' : World) : Prop :=
  ∃ v', Bok w' b v' (l ++ [e]) ∧ (v'.ownBlock = v.ownBlock ∨ ∃ k, v'.ownBlock = some k ∧ w.heap.size ≤ k) ∧ Keeps (fun i => i = b ∨ v.ownBlock = some i) w w'

theorem added_mk {w wa w8 w9 : World} {b : Nat} {v : Value} {l : List En} {e : En} {g cap : Nat} (B1 : Below w.heap.size w wa) (J8 : Just b wa w8) (BB8 : Blk w8 b tB #[.int .i32 1, .int .u32 0, .int .i64 (l.length : Nat), v])
    (HBL : b < w.heap.size) (HLOW : 5 ≤ b) (HOW : v.ownBlock ≠ some b) (hl : l.length < 1000000)
    (hown : w9.ownsRow 5 tE 8 (.slice (some ⟨g, 0, none⟩) (l.length + 1) cap) (l.length + 1) (rowE l ++ [.string (bs e.name), .int .i64 e.conn, .int .i64 e.numb, .string (bs e.meth), .string (bs e.tgt), .int .i64 e.stat, .int .i64 e.byts, .int .i64 e.tick]))
    (hat : v.ownBlock = some g ∨ w8.drew.heap.size ≤ g) (hk : Keeps (fun j => v.ownBlock = some j) w8.drew w9) :
    Added w b v l e (((w9.setCell ⟨b, 3, none⟩ (.slice (some ⟨g, 0, none⟩) (l.length + 1) cap)).setCell ⟨b, 2, none⟩ (.int .i64 ((l.length : Int) + 1))).setCell ⟨b, 0, none⟩ (.int .i32 0)) := by
  have z8 : w8.drew.heap.size = w8.heap.size := rfl
  have hs8 : w.heap.size ≤ w8.heap.size := Nat.le_trans B1.size J8.size
  have hgb : g ≠ b := by
    rcases hat with h | h
    · intro e; subst e; exact HOW h
    · omega
  have BB9 : Blk w9 b tB #[.int .i32 1, .int .u32 0, .int .i64 (l.length : Nat), v] := by
    have : Blk w8.drew b tB #[.int .i32 1, .int .u32 0, .int .i64 (l.length : Nat), v] := BB8
    exact this.keeps hk HOW
  obtain ⟨v', hv'⟩ : ∃ v', v' = Value.slice (some ⟨g, 0, none⟩) (l.length + 1) cap := ⟨_, rfl⟩
  have hvo : v'.ownBlock = some g := by rw [hv']; rfl
  rw [← hv'] at hown ⊢
  have S3 : Keeps (fun i => i = b ∨ v.ownBlock = some i) w9 (((w9.setCell ⟨b, 3, none⟩ v').setCell ⟨b, 2, none⟩ (.int .i64 ((l.length : Int) + 1))).setCell ⟨b, 0, none⟩ (.int .i32 0)) :=
    ((Keeps.set (Or.inl rfl) 3 w9 v').trans (Keeps.set (Or.inl rfl) 2 _ _)).trans (Keeps.set (Or.inl rfl) 0 _ _)
  have S3b : Keeps (fun i => i = b) w9 (((w9.setCell ⟨b, 3, none⟩ v').setCell ⟨b, 2, none⟩ (.int .i64 ((l.length : Int) + 1))).setCell ⟨b, 0, none⟩ (.int .i32 0)) :=
    ((Keeps.set (S := fun i => i = b) rfl 3 w9 v').trans (Keeps.set (S := fun i => i = b) rfl 2 _ _)).trans (Keeps.set (S := fun i => i = b) rfl 0 _ _)
  refine ⟨v', ⟨?_, ?_, HLOW, ?_, ?_⟩, ?_, ?_⟩
  · have := ((BB9.set 3 v').set 2 (.int .i64 ((l.length : Int) + 1))).set 0 (.int .i32 0)
    rw [List.length_append, List.length_singleton]
    exact this
  · rw [List.length_append, List.length_singleton, rowE_snoc]
    refine row_kept hown (fun k hk' => ?_)
    rw [hvo] at hk'
    injection hk' with hk'
    subst hk'
    have hlt := (World.ownsRow.lt hown g hvo).2
    exact S3b.block g hlt hgb
  · rw [hvo]; intro h; injection h with h; exact hgb h
  · rw [List.length_append, List.length_singleton]; omega
  · rcases hat with h | h
    · left; rw [hvo, h]
    · right; exact ⟨g, hvo, by omega⟩
  · have K1 : Keeps (fun i => i = b ∨ v.ownBlock = some i) w wa := Keeps.of B1 (Nat.le_refl _)
    have K2 : Keeps (fun i => i = b ∨ v.ownBlock = some i) wa w8 := ⟨J8.os, J8.tape, J8.output, J8.size, fun i hi hn => J8.block i hi (fun e => hn (Or.inl (by injection e with e)))⟩
    have K3 : Keeps (fun i => i = b ∨ v.ownBlock = some i) w8 w9 := ⟨hk.os, hk.tape, hk.output, hk.size, fun i hi hn => hk.block i hi (fun e => hn (Or.inr e))⟩
    exact ((K1.trans K2).trans K3).trans S3
theorem row_slice {w : World} {base : Nat} {e : TypeId} {size n : Nat} {v : Value} {xs : List Value} (h : w.ownsRow base e size v n xs) : ∃ p cap, v = .slice p n cap := by
  rcases h.2 with ⟨rfl, h0⟩ | ⟨g, cap, cur, rfl, _⟩
  · exact ⟨none, 0, by rw [h0]⟩
  · exact ⟨_, _, rfl⟩
set_option maxRecDepth 100000 in
theorem add_no (b : Nat) (v : Value) (l : List En) (e : En) (w : World) (hE : EnvT w) (_hB : Bok w b v l) (hr : rightE e = false) (h1 : e.name.length ≤ 1048576) (h2 : e.meth.length ≤ 1048576) (h3 : e.tgt.length ≤ 1048576) :
    Calls Tryz.prog 11 #[.pointer (some ⟨b, 0, none⟩), .string (bs e.name), visE e] w fun x w' => x = .returned (.int .i64 280) ∧ Below w.heap.size w w' := by
  have NR := Lib.hid (fun wx hx => right_any e wx hx (by omega) (by omega) (by omega))
  rw [hr] at NR
  have b0 := Lib.hid (((Below.refl w.heap.size w).alloc (Nat.le_refl _) (.cells (cellsV e) tV)).alloc (by show _ ≤ (w.heap.push _).size; rw [Array.size_push]; omega) (.cells (cellsE e) tE))
  have E0 := Lib.hid (hE.next b0.out)
  clear hE hr h1 h2 h3
  unfold encE at NR
  unfold visE
  unfold cellsV cellsE at b0 E0
  go_enter_defers Tryz.func11, Tryz.ntmps11
  go_wp2_with fail
  refine (NR.out _ E0.out).mono ?_; rintro x wa ⟨rfl, ba⟩
  have d1 := b0.out.trans (ba.mono b0.out.size)
  go_wp2_with fail
  exact ⟨_, results_tmp rfl _ _ _, rfl, d1⟩
set_option maxRecDepth 100000 in
theorem add_yes (b : Nat) (v : Value) (l : List En) (e : En) (w : World) (hE : EnvT w) (hB : Bok w b v l) (hr : rightE e = true) (hl : l.length < 1000000) (h1 : e.name.length ≤ 1048576) (h2 : e.meth.length ≤ 1048576) (h3 : e.tgt.length ≤ 1048576) :
    Calls Tryz.prog 11 #[.pointer (some ⟨b, 0, none⟩), .string (bs e.name), visE e] w fun x w' => x = .returned (.int .i64 0) ∧ Added w b v l e w' := by
  have NR := Lib.hid (fun wx hx => right_any e wx hx (by omega) (by omega) (by omega))
  rw [hr] at NR
  have b0 := Lib.hid (((Below.refl w.heap.size w).alloc (Nat.le_refl _) (.cells (cellsV e) tV)).alloc (by show _ ≤ (w.heap.push _).size; rw [Array.size_push]; omega) (.cells (cellsE e) tE))
  have E0 := Lib.hid (hE.next b0.out)
  have BK0 := Lib.hid (hB.next b0.out)
  have K0 : Hid (Blk ((w.alloc (.cells (cellsV e) tV)).alloc (.cells (cellsE e) tE)) (w.heap.size + 1) tE (cellsE e)) := by
    have := Blk.new (w.alloc (.cells (cellsV e) tV)) tE (cellsE e)
    rw [show (w.alloc (.cells (cellsV e) tV)).heap.size = w.heap.size + 1 from Array.size_push ..] at this
    exact this
  have HBL := Lib.hid hB.blk.lt
  have HOW := Lib.hid hB.own
  have HRL := Lib.hid hB.rowlt
  have HLOW := Lib.hid hB.low
  clear hE hB hr h1 h2 h3
  unfold encE at NR
  unfold visE
  unfold cellsV cellsE at b0 E0 BK0
  have K0' : Hid (Blk ((w.alloc (.cells #[.int .i64 e.conn, .int .i64 e.numb, .string (bs e.meth), .string (bs e.tgt), .int .i64 e.stat, .int .i64 e.byts, .int .i64 e.tick] tV)).alloc (.cells #[.string (bs e.name), .int .i64 e.conn, .int .i64 e.numb, .string (bs e.meth), .string (bs e.tgt), .int .i64 e.stat, .int .i64 e.byts, .int .i64 e.tick] tE)) (w.heap.size + 1) tE (cellsE e)) := K0
  clear K0
  go_enter_defers Tryz.func11, Tryz.ntmps11
  go_wp2_with fail
  refine (NR.out _ E0.out).mono ?_; rintro x wa ⟨rfl, ba⟩
  have B1 := Lib.hid (b0.out.trans (ba.mono b0.out.size))
  have BK1 := Lib.hid (BK0.out.next ba)
  have K1 := Lib.hid (K0'.out.below ba K0'.out.lt)
  clear ba b0 E0 BK0 K0' NR
  go_wp2_with fail
  refine (lock_free Tryz.muLib ⟨b, 0, none⟩ _ (BK1.out.blk.cell 0) (BK1.out.blk.frozen 0)).mono ?_
  rintro x w8 ⟨rfl, rfl⟩
  obtain ⟨w8, h8⟩ := name_it (wa.setCell ⟨b, 0, none⟩ (.int .i32 1))
  have BB8 : Hid (Blk w8 b tB #[.int .i32 1, .int .u32 0, .int .i64 (l.length : Nat), v]) := by rw [← h8.out]; exact BK1.out.blk.set 0 (.int .i32 1)
  have J8 : Hid (Just b wa w8) := by rw [← h8.out]; exact Just.set b 0 wa (.int .i32 1)
  rw [h8.out]
  have ROW8 : Hid (w8.ownsRow 5 tE 8 v l.length (rowE l)) := row_kept BK1.out.row (fun g hg => J8.out.block g (BK1.out.rowlt g hg).2 (fun h => by injection h with h; subst h; exact HOW.out hg))
  have hne : w.heap.size + 1 ≠ b := by have := HBL.out; omega
  have K8 := Lib.hid (K1.out.just J8.out hne)
  clear h8 K1 hne
  obtain ⟨sp, cap, rfl⟩ := row_slice ROW8.out
  have c3 : w8.cell? ⟨b, 3, none⟩ = some (.slice sp l.length cap) := BB8.out.cell 3
  have f3 : w8.frozen? ⟨b, 3, none⟩ = false := BB8.out.frozen 3
  have dl : decide ((1000000 : Int) ≤ (l.length : Int)) = false := decide_eq_false (by omega)
  have dln : decide (1000000 ≤ l.length) = false := decide_eq_false (by omega)
  have HLL := Lib.hid hl
  clear hl
  go_wp2_with fail
  have k0 : w8.cell? ⟨w.heap.size + 1, 0, none⟩ = some (.string (bs e.name)) := K8.out.cell 0
  have k1 : w8.cell? ⟨w.heap.size + 1, 1, none⟩ = some (.int .i64 e.conn) := K8.out.cell 1
  have k2 : w8.cell? ⟨w.heap.size + 1, 2, none⟩ = some (.int .i64 e.numb) := K8.out.cell 2
  have k3 : w8.cell? ⟨w.heap.size + 1, 3, none⟩ = some (.string (bs e.meth)) := K8.out.cell 3
  have k4 : w8.cell? ⟨w.heap.size + 1, 4, none⟩ = some (.string (bs e.tgt)) := K8.out.cell 4
  have k5 : w8.cell? ⟨w.heap.size + 1, 5, none⟩ = some (.int .i64 e.stat) := K8.out.cell 5
  have k6 : w8.cell? ⟨w.heap.size + 1, 6, none⟩ = some (.int .i64 e.byts) := K8.out.cell 6
  have k7 : w8.cell? ⟨w.heap.size + 1, 7, none⟩ = some (.int .i64 e.tick) := K8.out.cell 7
  obtain ⟨i0, hi, hz0, hz1, hz2⟩ := info_parts infoEntry
  have R9 : Hid (w8.drew.ownsRow 5 tE 8 (.slice sp l.length cap) l.length (rowE l)) := row_kept ROW8.out (fun g hg => rfl)
  have HU : Hid (∀ u ∈ [Value.string (bs e.name), .int .i64 e.conn, .int .i64 e.numb, .string (bs e.meth), .string (bs e.tgt), .int .i64 e.stat, .int .i64 e.byts, .int .i64 e.tick], u.oneCell' = true) := by
    intro u hu
    simp only [List.mem_cons, List.not_mem_nil, or_false] at hu
    rcases hu with rfl | rfl | rfl | rfl | rfl | rfl | rfl | rfl <;> rfl
  have hB8 : 5 ≤ w8.drew.heap.size := by have h1 := J8.out.size; have h2 := B1.out.size; have h3 := HBL.out; have h4 := HLOW.out; show 5 ≤ w8.heap.size; omega
  have BB9 : Hid (Blk w8.drew b tB #[.int .i32 1, .int .u32 0, .int .i64 (l.length : Nat), .slice sp l.length cap]) := BB8.out
  have xa := (BB9.out.alloc (.cells #[.string (bs e.name), .int .i64 e.conn, .int .i64 e.numb, .string (bs e.meth), .string (bs e.tgt), .int .i64 e.stat, .int .i64 e.byts, .int .i64 e.tick] tE)).cell 3
  have hgl := BB8.out.lt
  have hne8 : ¬ b = w8.heap.size := by omega
  have hml := K8.out.lt
  have hmne : ¬ w.heap.size + 1 = w8.heap.size := by omega
  refine wp_region_noPanic ?_
  go_region_law ((refine step_append8 (by rfl) _ _ 22 (by rfl) 5 tE i0 (.agg #[.string ⟨#[]⟩, .int .i64 0, .int .i64 0, .string ⟨#[]⟩, .string ⟨#[]⟩, .int .i64 0, .int .i64 0, .int .i64 0]) 88 Tryz.underlying22 hi hz0 hz1 hz2 rfl R9.out (by rfl) (.string (bs e.name)) (.int .i64 e.conn) (.int .i64 e.numb) (.string (bs e.meth)) (.string (bs e.tgt)) (.int .i64 e.stat) (.int .i64 e.byts) (.int .i64 e.tick) HU.out (by rfl) (by have := HLL.out; unfold maxLen; omega) (by have := HLL.out; omega) hB8 ?_; intro g9 cap9 w9 hg9 hown9 hat9 hk9; have BB10 := BB9.out.keeps hk9 HOW.out; have x9 := BB10.cell 3; have y9 := BB10.frozen 3))
  all_goals
    refine NoPanic.normal ?_
    have BB11 := Lib.hid (BB10.set 3 (.slice (some ⟨g9, 0, none⟩) (l.length + 1) cap9))
    have AD := Lib.hid (added_mk (w := w) (e := e) B1.out J8.out BB8.out HBL.out HLOW.out HOW.out HLL.out hown9 hat9 hk9)
    have HLE : Hid ((l.length : Int) ≤ 1000000) := by have := HLL.out; unfold Hid; omega
    clear hown9 hat9 hk9 BB10 x9 y9 xa hgl hne8 hml hmne k0 k1 k2 k3 k4 k5 k6 k7 c3 f3
    go_wp2_with fail
    refine (atomAdd_any b 2 (l.length : Nat) _ (BB11.out.cell 2) (BB11.out.frozen 2) (by omega) HLE.out).mono ?_
    rintro x w12 ⟨rfl, rfl⟩
    have BB12 := Lib.hid (BB11.out.set 2 (.int .i64 ((l.length : Int) + 1)))
    go_wp2_with fail
    refine leaves_cons (f := 32) (args := #[.pointer (some ⟨b, 0, none⟩)]) (by simp) (by simp [go_sem]) ?_
    refine (unlock_deferred Tryz.muLib ⟨b, 0, none⟩ .returning _ (BB12.out.cell 0) (BB12.out.frozen 0)).mono ?_
    rintro x u' w'' ⟨rfl, rfl, rfl⟩
    exact ⟨_, results_tmp rfl _ _ _, rfl, AD.out⟩
end Go.Proofs.YtfgaiopkclogmaaGreatDoor
