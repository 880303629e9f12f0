/- The document's Only: the entries that are wanted. -/
import Derived.Test.YtfgaiopkclogmaaGreatDoorMh
import Derived.Test.YtfgaiopkclogmaaGreatDoorLedgCeJ
import Derived.Test.YtfgaiopkclogmaaGreatDoorMi
import Derived.Test.YtfgaiopkclogmaaGreatDoorLedgRaJ
import Derived.BigQuiet
import Derived.Deep.CutRange
namespace Go.Proofs.YtfgaiopkclogmaaGreatDoor
open Go Go.RowKit Go.MuLone
set_option maxHeartbeats 8000000

theorem prefix_slash (p q : List UInt8) : Lib.hasPrefix p (q ++ [47]) = (decide (q.length < p.length) && (decide (p.take q.length = q) && decide (p[q.length]? = some 47))) := by
  unfold Lib.hasPrefix
  rw [Bool.eq_iff_iff, List.isPrefixOf_iff_prefix]
  simp only [Bool.and_eq_true, decide_eq_true_eq]
  constructor
  · rintro ⟨t, ht⟩
    subst ht
    refine ⟨by simp, by simp, by simp⟩
  · rintro ⟨h1, h2, h3⟩
    refine ⟨p.drop (q.length + 1), ?_⟩
    have h4 : p[q.length] = 47 := by
      rw [List.getElem?_eq_getElem h1] at h3
      injection h3
    have h5 : p = p.take q.length ++ p.drop q.length := (List.take_append_drop _ _).symm
    rw [List.drop_eq_getElem_cons h1, h4, h2] at h5
    rw [List.append_assoc]
    exact h5.symm
abbrev tRF : TypeId := 77
/-- where the document's Only stands -/
structure RO (w W : World) (f : Fi) (l : List En) (v : Value) : Prop where
  row : W.ownsRow (w.heap.size + 1) tR 8 v l.length (rowE l)
  box : Blk W w.heap.size tRF (cellsF f)
  below : Below w.heap.size w W
theorem RO.next {w W W' : World} {f : Fi} {l : List En} {v : Value} (h : RO w W f l v) (hb : Below W.heap.size W W') : RO w W' f l v :=
  ⟨row_kept h.row (fun g hg => hb.block g (World.ownsRow.lt h.row g hg).2), h.box.below hb h.box.lt, h.below.trans (hb.mono h.below.size)⟩
theorem RO.push {w W w6 : World} {f : Fi} {l : List En} {e : En} {v : Value} {g6 cap6 : Nat} (h : RO w W f l v) (hown : w6.ownsRow (w.heap.size + 1) tR 8 (.slice (some ⟨g6, 0, none⟩) (l.length + 1) cap6) (l.length + 1) (rowE l ++ (cellsE e).toList)) (hb : Below (w.heap.size + 1) W w6) : RO w w6 f (l ++ [e]) (.slice (some ⟨g6, 0, none⟩) (l ++ [e]).length cap6) where
  row := by rw [List.length_append, List.length_singleton, rowE_snoc]; exact hown
  box := h.box.below hb (Nat.lt_succ_self _)
  below := h.below.trans (hb.mono (Nat.le_succ _))
theorem RO.size {w W : World} {f : Fi} {l : List En} {v : Value} (h : RO w W f l v) : w.heap.size + 1 ≤ W.heap.size := h.box.lt

set_option maxRecDepth 100000 in
theorem ronly_any (va : Value) (l : List En) (f : Fi) (B : Nat) (w : World) (hA : w.ownsRow B tR 8 va l.length (rowE l)) (hok : ∀ e ∈ l, okE e) (hl : l.length ≤ 1000000) (hf : f.path.length ≤ 1048576) :
    Calls Tryz.prog 29 #[va, encF f] w fun e w' => (∃ v2, e = .returned v2 ∧ w'.ownsRow w.heap.size tR 8 v2 (l.filter fun e => wantB e f).length (rowE (l.filter fun e => wantB e f))) ∧ Below w.heap.size w w' := by
  obtain ⟨j0, ji, jz0, jz1, jz2⟩ := info_parts infoREn
  have ROW := Lib.hid hA
  have HOK := Lib.hid hok
  have hl2 : l.length ≤ 1073741824 := by omega
  have HFIT := Lib.hid hl
  have HF := Lib.hid hf
  have z1 : (w.alloc (.cells (cellsF f) tRF)).heap.size = w.heap.size + 1 := Array.size_push ..
  have R0 : Hid (RO w ((w.alloc (.cells (cellsF f) tRF)).alloc (.cells #[] tR)) f [] (.slice (some ⟨w.heap.size + 1, 0, none⟩) 0 0)) := by
    have r := World.ownsRow_lit (w.alloc (.cells (cellsF f) tRF)) (base := w.heap.size + 1) (e := tR) (size := 8) #[] 0 (by rw [z1]; omega) (by decide) rfl
    rw [z1] at r
    exact ⟨r, (Blk.new w tRF _).alloc _, ((Below.refl _ _).alloc (Nat.le_refl _) _).alloc (by rw [z1]; omega) _⟩
  obtain ⟨sp, cap, hv2⟩ := row_slice ROW.out
  subst hv2
  unfold cellsF at R0
  clear z1 hA hok hl hf
  show Calls Tryz.prog 29 #[.slice sp l.length cap, .agg #[.string (bs f.name), .string (bs f.meth), .string (bs f.path), .int .i64 f.least, .int .i64 f.most]] w _
  go_enter Tryz.func29, Tryz.ntmps29
  go_wp2_with fail
  go_loopw [5, 6] (fun out i wr => ∃ k : Nat, k ≤ l.length ∧ i = .int .i64 k ∧ ∃ g c, out = .slice (some ⟨g, 0, none⟩) ((l.take k).filter fun e => wantB e f).length c ∧ Hid (RO w wr f ((l.take k).filter fun e => wantB e f) out)) (fun _ i _ => l.length - (intOf i).toNat)
  case atStart => exact ⟨0, Nat.zero_le _, rfl, _, _, rfl, R0⟩
  clear R0
  case round =>
    obtain ⟨k, hk, rfl, go, co, rfl, hR⟩ := hrel
    obtain ⟨wq, hwq⟩ : ∃ wq, wq = wr := ⟨wr, rfl⟩
    subst hwq
    by_cases hlt : k < l.length
    · have q0 : (0 : Int) ≤ (k : Int) := by omega
      have q1 : (k : Int) < (l.length : Int) := by omega
      obtain ⟨g, rfl⟩ : ∃ g, sp = some ⟨g, 0, none⟩ := by
        rcases ROW.out.2 with ⟨_, h0⟩ | ⟨g, cap', cur, h, _⟩
        · omega
        · injection h with h _ _; exact ⟨g, h⟩
      have HG := Lib.hid (World.ownsRow.lt ROW.out g rfl).2
      have HX := Lib.hid (HOK.out l[k] (List.getElem_mem hlt))
      have ck : ∀ i, i < 8 → wq.cell? ⟨g, k * 8 + i, none⟩ = (cellsE l[k])[i]? := fun i hi => (hR.out.below.cell (p := ⟨g, k * 8 + i, none⟩) HG.out).trans ((ROW.out.cellAt (k * 8 + i) (by omega)).trans (rowE_get l k i hlt hi))
      have hfs := filter_snoc (fun e => wantB e f) l k hlt
      have hal : ((l.take k).filter fun e => wantB e f).length ≤ k := Nat.le_trans (List.length_filter_le _ _) (by rw [List.length_take]; omega)
      obtain ⟨acc, hacc⟩ := name_it ((l.take k).filter fun e => wantB e f)
      rw [hacc.out] at hR hfs hal ⊢
      obtain ⟨e, he⟩ := name_it l[k]
      rw [he.out] at HX ck hfs
      clear he hacc
      have c0 : wq.cell? ⟨g, k * 8, none⟩ = some (.string (bs e.name)) := ck 0 (by decide)
      have c1 : wq.cell? ⟨g, k * 8 + 1, none⟩ = some (.int .i64 e.conn) := ck 1 (by decide)
      have c2 : wq.cell? ⟨g, k * 8 + 2, none⟩ = some (.int .i64 e.numb) := ck 2 (by decide)
      have c3 : wq.cell? ⟨g, k * 8 + 3, none⟩ = some (.string (bs e.meth)) := ck 3 (by decide)
      have c4 : wq.cell? ⟨g, k * 8 + 4, none⟩ = some (.string (bs e.tgt)) := ck 4 (by decide)
      have c5 : wq.cell? ⟨g, k * 8 + 5, none⟩ = some (.int .i64 e.stat) := ck 5 (by decide)
      have c6 : wq.cell? ⟨g, k * 8 + 6, none⟩ = some (.int .i64 e.byts) := ck 6 (by decide)
      have c7 : wq.cell? ⟨g, k * 8 + 7, none⟩ = some (.int .i64 e.tick) := ck 7 (by decide)
      have RP := Lib.hid (fun wx => rpath_any (bs e.tgt) wx (by rw [size_bs]; have := HX.out.n3; omega))
      rw [L_bs] at RP
      have RA : Hid (RO w (wq.alloc (.cells #[.string (bs e.name), .int .i64 e.conn, .int .i64 e.numb, .string (bs e.meth), .string (bs e.tgt), .int .i64 e.stat, .int .i64 e.byts, .int .i64 e.tick] tR)) f acc (.slice (some ⟨go, 0, none⟩) acc.length co)) := hR.out.next ((Below.refl _ _).alloc (Nat.le_refl _) _)
      have EA : Hid (Blk (wq.alloc (.cells #[.string (bs e.name), .int .i64 e.conn, .int .i64 e.numb, .string (bs e.meth), .string (bs e.tgt), .int .i64 e.stat, .int .i64 e.byts, .int .i64 e.tick] tR)) wq.heap.size tR (cellsE e)) := Blk.new wq tR _
      clear ck
      go_wp2_with fail
      all_goals (try (exfalso; omega))
      refine (RP.out _).mono ?_; rintro x w5 ⟨rfl, rfl⟩
      obtain ⟨m, hm⟩ := name_it wq.heap.size
      rw [hm.out] at EA
      rw [hm.out]
      obtain ⟨wB, hwB⟩ := name_it (wq.alloc (.cells #[.string (bs e.name), .int .i64 e.conn, .int .i64 e.numb, .string (bs e.meth), .string (bs e.tgt), .int .i64 e.stat, .int .i64 e.byts, .int .i64 e.tick] tR))
      rw [hwB.out] at RA EA
      rw [hwB.out]
      clear hwB hm hR RP c0 c1 c2 c3 c4 c5 c6 c7
      have f0 : wB.cell? ⟨w.heap.size, 0, none⟩ = some (.string (bs f.name)) := RA.out.box.cell 0
      have f1 : wB.cell? ⟨w.heap.size, 1, none⟩ = some (.string (bs f.meth)) := RA.out.box.cell 1
      have f2 : wB.cell? ⟨w.heap.size, 2, none⟩ = some (.string (bs f.path)) := RA.out.box.cell 2
      have f3 : wB.cell? ⟨w.heap.size, 3, none⟩ = some (.int .i64 f.least) := RA.out.box.cell 3
      have f4 : wB.cell? ⟨w.heap.size, 4, none⟩ = some (.int .i64 f.most) := RA.out.box.cell 4
      have e0 : wB.cell? ⟨m, 0, none⟩ = some (.string (bs e.name)) := EA.out.cell 0
      have e1 : wB.cell? ⟨m, 1, none⟩ = some (.int .i64 e.conn) := EA.out.cell 1
      have e2 : wB.cell? ⟨m, 2, none⟩ = some (.int .i64 e.numb) := EA.out.cell 2
      have e3 : wB.cell? ⟨m, 3, none⟩ = some (.string (bs e.meth)) := EA.out.cell 3
      have e4 : wB.cell? ⟨m, 4, none⟩ = some (.string (bs e.tgt)) := EA.out.cell 4
      have e5 : wB.cell? ⟨m, 5, none⟩ = some (.int .i64 e.stat) := EA.out.cell 5
      have e6 : wB.cell? ⟨m, 6, none⟩ = some (.int .i64 e.byts) := EA.out.cell 6
      have e7 : wB.cell? ⟨m, 7, none⟩ = some (.int .i64 e.tick) := EA.out.cell 7
      go_wp2_with fail
      have hpl : (bs f.path).size ≤ 1048576 := by rw [size_bs]; exact HF.out
      have hps : (bs (pathL e.tgt)).size ≤ 1048576 := by rw [size_bs]; have h1 := path_le e.tgt; have h2 := HX.out.n3; omega
      have hu : underB e f = ((decide (f.path = []) || decide (pathL e.tgt = f.path)) || (decide (f.path.length < (pathL e.tgt).length) && (decide ((pathL e.tgt).take f.path.length = f.path) && decide ((pathL e.tgt)[f.path.length]? = some 47)))) := by unfold underB; rw [prefix_slash]
      have s5 : (bs f.path).toList.isEmpty = decide (f.path = []) := by rw [toList_L, L_bs, Bool.eq_iff_iff, decide_eq_true_eq, List.isEmpty_iff]
      have s6 : ((bs (pathL e.tgt)).toList == (bs f.path).toList) = decide (pathL e.tgt = f.path) := by rw [toList_L, toList_L, L_bs, L_bs, Bool.eq_iff_iff]; simp
      have s7 : decide (((bs f.path).size : Int) < ((bs (pathL e.tgt)).size : Int)) = decide (f.path.length < (pathL e.tgt).length) := by rw [size_bs, size_bs]; simp
      have s8 : (((bs (pathL e.tgt)).extract 0 (bs f.path).size).toList == (bs f.path).toList) = decide ((pathL e.tgt).take f.path.length = f.path) := by rw [extract_bs, toList_L, toList_L, L_bs, L_bs, L_bs, size_bs, List.drop_zero, Bool.eq_iff_iff]; simp
      have s9 : ∀ h : (bs f.path).size < (bs (pathL e.tgt)).size, (((((bs (pathL e.tgt))[(bs f.path).size]).toNat : Int)) == 47) = decide ((pathL e.tgt)[f.path.length]? = some 47) := by
        intro h
        have h1 : (pathL e.tgt)[f.path.length]? = some (bs (pathL e.tgt))[(bs f.path).size] := by
          have h2 : f.path.length < (pathL e.tgt).length := by rw [size_bs, size_bs] at h; exact h
          rw [List.getElem?_eq_getElem h2]
          congr 1
        rw [h1]
        obtain ⟨c, hc⟩ := name_it (bs (pathL e.tgt))[(bs f.path).size]
        rw [hc.out]
        by_cases hc7 : c = 47
        · subst hc7; rfl
        · rw [show decide (some c = some (47 : UInt8)) = false by simpa using hc7, beq_eq_false_iff_ne]
          intro h2
          exact hc7 (UInt8.toNat_inj.1 (by show c.toNat = 47; omega))
      rw [← s5, ← s6, ← s7, ← s8] at hu
      have HW : Hid (wantB e f = ((namedB e f && underB e f) && statB e f)) := rfl
      have HN : Hid (namedB e f = (((bs f.name).toList.isEmpty || ((bs e.name).toList == (bs f.name).toList)) && ((bs f.meth).toList.isEmpty || ((bs e.meth).toList == (bs f.meth).toList)))) := by
        unfold Hid namedB
        have a1 : (bs f.name).toList.isEmpty = decide (f.name = []) := by rw [toList_L, L_bs, Bool.eq_iff_iff, decide_eq_true_eq, List.isEmpty_iff]
        have a2 : ((bs e.name).toList == (bs f.name).toList) = decide (e.name = f.name) := by rw [toList_L, toList_L, L_bs, L_bs, Bool.eq_iff_iff]; simp
        have a3 : (bs f.meth).toList.isEmpty = decide (f.meth = []) := by rw [toList_L, L_bs, Bool.eq_iff_iff, decide_eq_true_eq, List.isEmpty_iff]
        have a4 : ((bs e.meth).toList == (bs f.meth).toList) = decide (e.meth = f.meth) := by rw [toList_L, toList_L, L_bs, L_bs, Bool.eq_iff_iff]; simp
        rw [a1, a2, a3, a4]
      clear s5 s6 s7 s8
      obtain ⟨s, hs⟩ := name_it (bs (pathL e.tgt))
      obtain ⟨fs, hfs'⟩ := name_it (bs f.path)
      rw [hs.out, hfs'.out] at hu
      rw [hs.out] at hps s9
      rw [hfs'.out] at hpl f2 s9
      rw [hs.out, hfs'.out]
      replace hu := Lib.hid hu
      clear hs
      go_cut [10] from 12 to 104 (fun s10 wc => s10 = .bool (underB e f) ∧ Hid (∃ n, wc = wB.drewN n))
      case first =>
        by_cases g1 : fs.toList.isEmpty = true
        · have HU : Hid (underB e f = true) := by unfold Hid; rw [hu.out, g1]; rfl
          go_quiet (fail)
          go_wp2_with fail
          go_meet
          case rel => exact ⟨by rw [HU.out], ⟨nq, rfl⟩⟩
        · replace g1 : fs.toList.isEmpty = false := by simpa using g1
          by_cases g2 : (s.toList == fs.toList) = true
          · have HU : Hid (underB e f = true) := by unfold Hid; rw [hu.out, g1, g2]; rfl
            have g2' : s.toList = fs.toList := by simpa using g2
            go_quiet (fail)
            go_wp2_with fail
            go_meet
            case rel => exact ⟨by rw [HU.out], ⟨nq, rfl⟩⟩
          · replace g2 : (s.toList == fs.toList) = false := by simpa using g2
            have g2' : ¬ s.toList = fs.toList := by simpa using g2
            by_cases g3 : fs.size < s.size
            · have g3' : decide ((fs.size : Int) < (s.size : Int)) = true := decide_eq_true (by omega)
              have g3b : (fs.size : Int) < (s.size : Int) := by omega
              have g3c : (fs.size : Int) ≤ (s.size : Int) := by omega
              have g3d : fs.size ≤ s.size := by omega
              by_cases g4 : ((s.extract 0 fs.size).toList == fs.toList) = true
              · have g4' : (s.extract 0 fs.size).toList = fs.toList := by simpa using g4
                have s9' := s9 g3
                obtain ⟨c, hc⟩ := name_it s[fs.size]
                rw [hc.out] at s9'
                have hck := hc.out
                cases g5 : ((c.toNat : Int) == 47) with
                | true =>
                  have HU : Hid (underB e f = true) := by unfold Hid; rw [hu.out, g1, g2, g3', g4, ← s9', g5]; rfl
                  clear s9' s9 hc
                  go_quiet (fail)
                  go_wp2_with fail
                  go_meet
                  case rel => exact ⟨by rw [HU.out], ⟨nq, rfl⟩⟩
                | false =>
                  have HU : Hid (underB e f = false) := by unfold Hid; rw [hu.out, g1, g2, g3', g4, ← s9', g5]; rfl
                  clear s9' s9 hc
                  go_quiet (fail)
                  go_wp2_with fail
                  go_meet
                  case rel => exact ⟨by rw [HU.out], ⟨nq, rfl⟩⟩
              · replace g4 : ((s.extract 0 fs.size).toList == fs.toList) = false := by simpa using g4
                have g4' : ¬ (s.extract 0 fs.size).toList = fs.toList := by simpa using g4
                have HU : Hid (underB e f = false) := by unfold Hid; rw [hu.out, g1, g2, g3', g4]; rfl
                clear s9
                go_quiet (fail)
                go_wp2_with fail
                go_meet
                case rel => exact ⟨by rw [HU.out], ⟨nq, rfl⟩⟩
            · have g3' : decide ((fs.size : Int) < (s.size : Int)) = false := decide_eq_false (by omega)
              have HU : Hid (underB e f = false) := by unfold Hid; rw [hu.out, g1, g2, g3']; rfl
              clear s9
              go_quiet (fail)
              go_wp2_with fail
              go_meet
              case rel => exact ⟨by rw [HU.out], ⟨nq, rfl⟩⟩
      case rest =>
        obtain ⟨rfl, hcw⟩ := hcut
        obtain ⟨nq, hnq⟩ := hcw.out
        have RB : Hid (RO w wc f acc (.slice (some ⟨go, 0, none⟩) acc.length co)) := by rw [hnq]; exact RA.out.next (below_drewN (Below.refl _ _) nq)
        have EB : Hid (Blk wc m tR (cellsE e)) := by rw [hnq]; exact EA.out
        clear hcw hnq f0 f1 f2 f3 f4 e0 e1 e2 e3 e4 e5 e6 e7 RA EA hu s9
        have f0 : wc.cell? ⟨w.heap.size, 0, none⟩ = some (.string (bs f.name)) := RB.out.box.cell 0
        have f1 : wc.cell? ⟨w.heap.size, 1, none⟩ = some (.string (bs f.meth)) := RB.out.box.cell 1
        have f3 : wc.cell? ⟨w.heap.size, 3, none⟩ = some (.int .i64 f.least) := RB.out.box.cell 3
        have f4 : wc.cell? ⟨w.heap.size, 4, none⟩ = some (.int .i64 f.most) := RB.out.box.cell 4
        have e0 : wc.cell? ⟨m, 0, none⟩ = some (.string (bs e.name)) := EB.out.cell 0
        have e3 : wc.cell? ⟨m, 3, none⟩ = some (.string (bs e.meth)) := EB.out.cell 3
        have e5 : wc.cell? ⟨m, 5, none⟩ = some (.int .i64 e.stat) := EB.out.cell 5
        obtain ⟨ub, hub⟩ := name_it (underB e f)
        have HWU : Hid (wantB e f = ((((bs f.name).toList.isEmpty || ((bs e.name).toList == (bs f.name).toList)) && ((bs f.meth).toList.isEmpty || ((bs e.meth).toList == (bs f.meth).toList))) && ub && (decide (f.least ≤ e.stat) && (decide (f.most ≤ 0) || decide (e.stat ≤ f.most))))) := by unfold Hid; rw [HW.out, HN.out, hub.out]; rfl
        rw [hub.out]
        clear hub HW HN
        obtain ⟨W, hW⟩ := name_it (wantB e f)
        rw [hW.out] at HWU hfs
        clear hW
        go_upto_region 9 with (fail)
        go_cut [10, 100] from 12 to 104 (fun _ s100 wd => s100 = .bool W ∧ wd = wc)
        case first =>
          clear hfs
          go_wp2_with fail
          all_goals go_meet
          all_goals (refine ⟨val_bool ?_, rfl⟩; rw [HWU.out]; clear HWU; simp [*] <;> omega)
        case rest =>
          obtain ⟨rfl, rfl⟩ := hcut
          clear HWU f0 f1 f3 f4 e0 e3 e5
          cases W with
          | false =>
            rw [if_neg (by decide)] at hfs
            have RN : Hid (RO w wc f ((l.take (k + 1)).filter fun e => wantB e f) (.slice (some ⟨go, 0, none⟩) acc.length co)) := by rw [hfs]; exact RB.out
            have LN : ((l.take (k + 1)).filter fun e => wantB e f).length = acc.length := by rw [hfs]
            have LNH := Lib.hid LN
            clear hfs LN
            go_wp2_with fail
            rw [← hfs'.out]
            go_roundw
            case rel => exact ⟨k + 1, by omega, by go_num, go, co, by rw [LNH.out], RN⟩
            case measure => simp [intOf] <;> omega
          | true =>
            rw [if_pos rfl] at hfs
            have HFS := Lib.hid hfs
            clear hfs
            have e0 : wc.cell? ⟨m, 0, none⟩ = some (.string (bs e.name)) := EB.out.cell 0
            have e1 : wc.cell? ⟨m, 1, none⟩ = some (.int .i64 e.conn) := EB.out.cell 1
            have e2 : wc.cell? ⟨m, 2, none⟩ = some (.int .i64 e.numb) := EB.out.cell 2
            have e3 : wc.cell? ⟨m, 3, none⟩ = some (.string (bs e.meth)) := EB.out.cell 3
            have e4 : wc.cell? ⟨m, 4, none⟩ = some (.string (bs e.tgt)) := EB.out.cell 4
            have e5 : wc.cell? ⟨m, 5, none⟩ = some (.int .i64 e.stat) := EB.out.cell 5
            have e6 : wc.cell? ⟨m, 6, none⟩ = some (.int .i64 e.byts) := EB.out.cell 6
            have e7 : wc.cell? ⟨m, 7, none⟩ = some (.int .i64 e.tick) := EB.out.cell 7
            have hfit := HFIT.out
            have hbz : w.heap.size + 1 ≤ wc.heap.size := by
              have h1 := (World.ownsRow.lt RB.out.row go rfl); omega
            go_wp2_with (at_builtin; refine appendZ rfl _ _ 26 rfl (w.heap.size + 1) tR j0 (.agg #[.string ⟨#[]⟩, .int .i64 0, .int .i64 0, .string ⟨#[]⟩, .string ⟨#[]⟩, .int .i64 0, .int .i64 0, .int .i64 0]) 8 88 Tryz.underlying26 ji jz0 jz1 jz2 rfl (by decide) RB.out.row rfl #[.string (bs e.name), .int .i64 e.conn, .int .i64 e.numb, .string (bs e.meth), .string (bs e.tgt), .int .i64 e.stat, .int .i64 e.byts, .int .i64 e.tick] rfl (by intro u hu; simp only [List.mem_cons, List.not_mem_nil, or_false] at hu; rcases hu with rfl | rfl | rfl | rfl | rfl | rfl | rfl | rfl <;> rfl) rfl rfl ?_ ?_ ?_ ?_)
            · unfold maxLen; omega
            · omega
            · exact hbz
            intro g6 cap6 w6 hown6 hb6 _ _
            have RN : Hid (RO w w6 f ((l.take (k + 1)).filter fun e => wantB e f) (.slice (some ⟨g6, 0, none⟩) (acc.length + 1) cap6)) := by
              have h := RB.out.push (e := e) hown6 hb6
              rw [List.length_append, List.length_singleton] at h
              rw [HFS.out]; exact h
            have LN : ((l.take (k + 1)).filter fun e => wantB e f).length = acc.length + 1 := by rw [HFS.out, List.length_append, List.length_singleton]
            have LNH := Lib.hid LN
            clear LN hown6 hb6
            go_wp2_with fail
            rw [← hfs'.out]
            go_roundw
            case rel => exact ⟨k + 1, by omega, by go_num, g6, cap6, by rw [LNH.out], RN⟩
            case measure => simp [intOf] <;> omega
    · obtain rfl : k = l.length := by omega
      rw [List.take_length] at hR ⊢
      have d1 : decide ((l.length : Int) < (l.length : Int)) = false := decide_eq_false (by omega)
      go_wp2_with fail
      all_goals (try (exfalso; omega))
      go_ret
      refine ⟨⟨_, rfl, ?_⟩, hR.out.below⟩
      exact hR.out.row.mono (Nat.le_succ _)
end Go.Proofs.YtfgaiopkclogmaaGreatDoor
