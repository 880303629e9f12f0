/- Contracts of cookie: what an attribute does to what is set. Program's closures. Contracts of cookie: attributes by their words; what a server sets. Program's. -/
import Derived.Test.YtkenianfpfamcaaGreatDoorMg
import Derived.Test.YtkenianfpfamcaaGreatDoorMi
import Derived.Maps.Views
import Derived.StringKeys
import Derived.Maps.OwnOps
import Derived.Shelf.Strings.Split
namespace Go.Proofs.YtkenianfpfamcaaGreatDoor
open Go Go.RowKit
set_option maxHeartbeats 4000000

def cellsS (c : SetC) : List Value := [.string (bs c.name), .string (bs c.value), .string (bs c.path), .string (bs c.domain), .int .i64 c.maxAge, .bool c.hasMax, .int .i64 c.expires, .bool c.hasExp, .bool c.secure, .bool c.http, .int .i64 c.same]
/-- a closure has come to its end: the cookie in the block is c; other old blocks stand -/
structure Did (w : World) (b : Nat) (c : SetC) (e : Ending) (w' : World) : Prop where
  ret : e = .returned (.tuple #[])
  cells : CellsAt w' b (cellsS c)
  keeps : Keeps (fun i => i = b) w w'
theorem did_set {w wq : World} {b : Nat} {c c' : SetC} (h : CellsAt wq b (cellsS c)) (k : Keeps (fun i => i = b) w wq) (j : Nat) (v : Value) (hj : j < 11) (e : (cellsS c).set j v = cellsS c') :
    CellsAt (wq.setCell ⟨b, j, none⟩ v) b (cellsS c') ∧ Keeps (fun i => i = b) w (wq.setCell ⟨b, j, none⟩ v) :=
  ⟨e ▸ h.set j hj v, k.trans (Keeps.set (S := fun i => i = b) rfl _ _ _)⟩
theorem did_next {w wq wr : World} {b : Nat} {c : SetC} (h : CellsAt wq b (cellsS c)) (k : Keeps (fun i => i = b) w wq) (hb : Below wq.heap.size wq wr) : CellsAt wr b (cellsS c) ∧ Keeps (fun i => i = b) w wr :=
  ⟨h.next hb, k.trans (Keeps.of hb (Nat.le_refl _))⟩
theorem att5_any (b : Nat) (c : SetC) (v : ByteArray) (w : World) (h : CellsAt w b (cellsS c)) :
    Calls Tryz.prog 104 #[.pointer (some ⟨b, 0, none⟩), .string v] w (Did w b { c with secure := true }) := by
  have z := h.at 8 _ rfl
  have y := h.free 8
  have HD := Lib.hid (did_set (c' := { c with secure := true }) h (Keeps.refl _ _) 8 (.bool true) (by decide) rfl)
  clear h
  go_enter Tryz.func104, Tryz.ntmps104
  go_wp2_with fail
  refine bodyPost_end (results_none rfl _ _ _) rfl ?_
  exact ⟨rfl, HD.out.1, HD.out.2⟩
theorem att6_any (b : Nat) (c : SetC) (v : ByteArray) (w : World) (h : CellsAt w b (cellsS c)) :
    Calls Tryz.prog 105 #[.pointer (some ⟨b, 0, none⟩), .string v] w (Did w b { c with http := true }) := by
  have z := h.at 9 _ rfl
  have y := h.free 9
  have HD := Lib.hid (did_set (c' := { c with http := true }) h (Keeps.refl _ _) 9 (.bool true) (by decide) rfl)
  clear h
  go_enter Tryz.func105, Tryz.ntmps105
  go_wp2_with fail
  refine bodyPost_end (results_none rfl _ _ _) rfl ?_
  exact ⟨rfl, HD.out.1, HD.out.2⟩
set_option maxRecDepth 100000 in
theorem att7_any (b : Nat) (c : SetC) (v : ByteArray) (w : World) (h : CellsAt w b (cellsS c)) (hv : v.size ≤ 1073741824) :
    Calls Tryz.prog 106 #[.pointer (some ⟨b, 0, none⟩), .string v] w (Did w b { c with same := sameC ((L v).map lowerB) }) := by
  have H := Lib.hid h
  have HL := Lib.hid (lower_any v w (by unfold maxLen; omega))
  obtain ⟨X, hX⟩ := name_it (lower (L v))
  have hS : Hid (sameC ((L v).map lowerB) = sameC X) := by rw [← hX.out]; rfl
  rw [hX.out] at HL
  rw [hS.out]
  clear h hX hS
  have e1 : ((bs X).toList == [108, 97, 120]) = decide (X = wLax) := by rw [toList_L, L_bs, Bool.eq_iff_iff, beq_iff_eq, decide_eq_true_eq]; rfl
  have e2 : ((bs X).toList == [115, 116, 114, 105, 99, 116]) = decide (X = wStrict) := by rw [toList_L, L_bs, Bool.eq_iff_iff, beq_iff_eq, decide_eq_true_eq]; rfl
  have e3 : ((bs X).toList == [110, 111, 110, 101]) = decide (X = wNone) := by rw [toList_L, L_bs, Bool.eq_iff_iff, beq_iff_eq, decide_eq_true_eq]; rfl
  have hs : sameC X = if X = wLax then 1 else if X = wStrict then 2 else if X = wNone then 3 else 0 := rfl
  have go : ∀ k : Int, Hid (sameC X = k) → Hid (∀ w1, Below w.heap.size w w1 → CellsAt (w1.setCell ⟨b, 10, none⟩ (.int .i64 k)) b (cellsS { c with same := sameC X }) ∧ Keeps (fun i => i = b) w (w1.setCell ⟨b, 10, none⟩ (.int .i64 k))) := by
    intro k hk w1 hb
    obtain ⟨q1, q2⟩ := did_next H.out (Keeps.refl _ _) hb
    exact did_set (c' := { c with same := sameC X }) q1 q2 10 (.int .i64 k) (by decide) (by rw [hk.out]; rfl)
  by_cases h1 : X = wLax
  · have G := go 1 (by unfold Hid; rw [hs, if_pos h1])
    rw [decide_eq_true h1] at e1
    clear go hs e2 e3 h1
    go_enter Tryz.func106, Tryz.ntmps106
    go_wp2_with fail
    refine HL.out.mono ?_; rintro e w1 ⟨rfl, hb⟩
    have z := (H.out.next hb).at 10 _ rfl
    have y := (H.out.next hb).free 10
    go_wp2_with fail
    refine bodyPost_end (results_none rfl _ _ _) rfl ?_
    exact ⟨rfl, (G.out _ hb).1, (G.out _ hb).2⟩
  · rw [decide_eq_false h1] at e1
    by_cases h2 : X = wStrict
    · have G := go 2 (by unfold Hid; rw [hs, if_neg h1, if_pos h2])
      rw [decide_eq_true h2] at e2
      clear go hs e3 h1 h2
      go_enter Tryz.func106, Tryz.ntmps106
      go_wp2_with fail
      refine HL.out.mono ?_; rintro e w1 ⟨rfl, hb⟩
      have z := (H.out.next hb).at 10 _ rfl
      have y := (H.out.next hb).free 10
      go_wp2_with fail
      refine bodyPost_end (results_none rfl _ _ _) rfl ?_
      exact ⟨rfl, (G.out _ hb).1, (G.out _ hb).2⟩
    · rw [decide_eq_false h2] at e2
      by_cases h3 : X = wNone
      · have G := go 3 (by unfold Hid; rw [hs, if_neg h1, if_neg h2, if_pos h3])
        rw [decide_eq_true h3] at e3
        clear go hs h1 h2 h3
        go_enter Tryz.func106, Tryz.ntmps106
        go_wp2_with fail
        refine HL.out.mono ?_; rintro e w1 ⟨rfl, hb⟩
        have z := (H.out.next hb).at 10 _ rfl
        have y := (H.out.next hb).free 10
        go_wp2_with fail
        refine bodyPost_end (results_none rfl _ _ _) rfl ?_
        exact ⟨rfl, (G.out _ hb).1, (G.out _ hb).2⟩
      · have G := go 0 (by unfold Hid; rw [hs, if_neg h1, if_neg h2, if_neg h3])
        rw [decide_eq_false h3] at e3
        clear go hs h1 h2 h3
        go_enter Tryz.func106, Tryz.ntmps106
        go_wp2_with fail
        refine HL.out.mono ?_; rintro e w1 ⟨rfl, hb⟩
        have z := (H.out.next hb).at 10 _ rfl
        have y := (H.out.next hb).free 10
        go_wp2_with fail
        refine bodyPost_end (results_none rfl _ _ _) rfl ?_
        exact ⟨rfl, (G.out _ hb).1, (G.out _ hb).2⟩
set_option maxRecDepth 100000 in
theorem att4_any (b : Nat) (c : SetC) (v : ByteArray) (w : World) (h : CellsAt w b (cellsS c)) (hv : v.size ≤ 1073741824) :
    Calls Tryz.prog 103 #[.pointer (some ⟨b, 0, none⟩), .string v] w (Did w b { c with path := if pathC (L v) = true then L v else [] }) := by
  have z := h.at 2 _ rfl
  have y := h.free 2
  obtain ⟨q1, q2⟩ := did_set (c' := { c with path := [] }) h (Keeps.refl _ _) 2 (.string ⟨#[]⟩) (by decide) rfl
  have HP := Lib.hid (ispath_any v (w.setCell ⟨b, 2, none⟩ (.string ⟨#[]⟩)) (by unfold maxLen; omega))
  have z2 := q1.at 2 _ rfl
  have y2 := q1.free 2
  cases hp : pathC (L v) with
  | false =>
    rw [hp] at HP
    have HD := Lib.hid (And.intro q1 q2)
    have HE : Hid ((if false = true then L v else []) = ([] : List UInt8)) := rfl
    rw [HE.out]
    clear q1 q2 hp h z2 y2
    go_enter Tryz.func103, Tryz.ntmps103
    go_wp2_with fail
    refine HP.out.mono ?_; rintro e w1 ⟨rfl, rfl⟩
    go_wp2_with fail
    refine bodyPost_end (results_none rfl _ _ _) rfl ?_
    exact ⟨rfl, HD.out.1, HD.out.2⟩
  | true =>
    rw [hp] at HP
    have HD := Lib.hid (did_set (c' := { c with path := L v }) q1 q2 2 (.string v) (by decide) rfl)
    have HE : Hid ((if true = true then L v else []) = L v) := rfl
    rw [HE.out]
    clear q1 q2 hp h
    go_enter Tryz.func103, Tryz.ntmps103
    go_wp2_with fail
    refine HP.out.mono ?_; rintro e w1 ⟨rfl, rfl⟩
    go_wp2_with fail
    refine bodyPost_end (results_none rfl _ _ _) rfl ?_
    exact ⟨rfl, HD.out.1, HD.out.2⟩
set_option maxRecDepth 100000 in
theorem att3_any (b : Nat) (c : SetC) (v : ByteArray) (w : World) (h : CellsAt w b (cellsS c)) (hv : v.size ≤ 1073741824) :
    Calls Tryz.prog 101 #[.pointer (some ⟨b, 0, none⟩), .string v] w (Did w b (if domC (undot ((L v).map lowerB)) = true then { c with domain := undot ((L v).map lowerB) } else c)) := by
  have H := Lib.hid h
  have HL := Lib.hid (lower_any v w (by unfold maxLen; omega))
  have hll := lower_length (L v)
  obtain ⟨X, hX⟩ := name_it (lower (L v))
  have hX2 : (L v).map lowerB = X := hX.out
  rw [hX2]
  rw [hX.out] at HL hll
  rw [L_length] at hll
  have HT : Hid (∀ wx, Calls Tryz.prog 102 #[.string (bs X), .string ⟨#[46]⟩] wx fun e w' => e = .returned (.string (bs (undot X))) ∧ wx = w') := by
    intro wx
    refine (Tryz.strings_TrimPrefix (bs X) ⟨#[46]⟩ wx).mono ?_
    rintro e w' ⟨rfl, rfl⟩
    refine ⟨ret_str ?_, rfl⟩
    have e1 : Lib.trimPrefix (bs X).data.toList (⟨#[46]⟩ : ByteArray).data.toList = undot X := lib_undot X
    rw [e1]; rfl
  have hul := undot_le X
  obtain ⟨Y, hY⟩ := name_it (undot X)
  rw [hY.out] at HT hul ⊢
  have HI := Lib.hid (fun wx => isdomain_any (bs Y) wx (by unfold maxLen; rw [size_bs]; omega))
  rw [L_bs] at HI
  clear h hX hX2 hY
  cases hd : domC Y with
  | false =>
    rw [hd] at HI
    rw [if_neg (by decide)]
    go_enter Tryz.func101, Tryz.ntmps101
    go_wp2_with fail
    refine HL.out.mono ?_; rintro e w1 ⟨rfl, hb⟩
    go_wp2_with fail
    refine (HT.out _).mono ?_; rintro e w2 ⟨rfl, rfl⟩
    go_wp2_with fail
    refine (HI.out _).mono ?_; rintro e w2 ⟨rfl, rfl⟩
    go_wp2_with fail
    refine bodyPost_end (results_none rfl _ _ _) rfl ?_
    exact ⟨rfl, (did_next H.out (Keeps.refl _ _) hb).1, (did_next H.out (Keeps.refl _ _) hb).2⟩
  | true =>
    rw [hd] at HI
    rw [if_pos rfl]
    go_enter Tryz.func101, Tryz.ntmps101
    go_wp2_with fail
    refine HL.out.mono ?_; rintro e w1 ⟨rfl, hb⟩
    obtain ⟨q1, q2⟩ := did_next H.out (Keeps.refl _ _) hb
    have z := q1.at 3 _ rfl
    have y := q1.free 3
    have HD := Lib.hid (did_set (c' := { c with domain := Y }) q1 q2 3 (.string (bs Y)) (by decide) rfl)
    clear q1 q2 hb
    go_wp2_with fail
    refine (HT.out _).mono ?_; rintro e w2 ⟨rfl, rfl⟩
    go_wp2_with fail
    refine (HI.out _).mono ?_; rintro e w2 ⟨rfl, rfl⟩
    go_wp2_with fail
    refine bodyPost_end (results_none rfl _ _ _) rfl ?_
    exact ⟨rfl, HD.out.1, HD.out.2⟩
set_option maxRecDepth 100000 in
theorem att2_any (b : Nat) (c : SetC) (v : ByteArray) (w : World) (h : CellsAt w b (cellsS c)) (hv : v.size ≤ 1073741824) :
    Calls Tryz.prog 99 #[.pointer (some ⟨b, 0, none⟩), .string v] w (Did w b (match ageC (L v) with | none => c | some n => { c with maxAge := n, hasMax := true })) := by
  have H := Lib.hid h
  have HA := Lib.hid (age_any v w hv)
  obtain ⟨o, ho⟩ := name_it (ageC (L v))
  rw [ho.out] at HA ⊢
  clear h ho
  cases o with
  | none =>
    unfold ageV at HA
    go_enter Tryz.func99, Tryz.ntmps99
    go_wp2_with fail
    refine HA.out.mono ?_; rintro e w1 ⟨rfl, hb⟩
    go_wp2_with fail
    refine bodyPost_end (results_none rfl _ _ _) rfl ?_
    exact ⟨rfl, (did_next H.out (Keeps.refl _ _) hb).1, (did_next H.out (Keeps.refl _ _) hb).2⟩
  | some n =>
    unfold ageV at HA
    go_enter Tryz.func99, Tryz.ntmps99
    go_wp2_with fail
    refine HA.out.mono ?_; rintro e w1 ⟨rfl, hb⟩
    obtain ⟨q1, q2⟩ := did_next H.out (Keeps.refl _ _) hb
    have z := q1.at 4 _ rfl
    have y := q1.free 4
    obtain ⟨q3, q4⟩ := did_set (c' := { c with maxAge := n }) q1 q2 4 (.int .i64 n) (by decide) rfl
    have z5 := q3.at 5 _ rfl
    have y5 := q3.free 5
    have HD := Lib.hid (did_set (c' := { c with maxAge := n, hasMax := true }) q3 q4 5 (.bool true) (by decide) rfl)
    clear q1 q2 q3 q4 hb
    go_wp2_with fail
    refine bodyPost_end (results_none rfl _ _ _) rfl ?_
    exact ⟨rfl, HD.out.1, HD.out.2⟩
set_option maxRecDepth 100000 in
theorem att1_any (b bx : Nat) (now : Int) (c : SetC) (v : ByteArray) (w : World) (hE : EnvS w) (h : CellsAt w b (cellsS c)) (hx : CellsAt w bx [.int .i64 now]) (hv : v.size ≤ 1073741824) :
    Calls Tryz.prog 97 #[.pointer (some ⟨b, 0, none⟩), .string v, .pointer (some ⟨bx, 0, none⟩)] w (Did w b (if (expC now (L v)).e = 0 then { c with expires := (expC now (L v)).m, hasExp := true } else c)) := by
  have H := Lib.hid h
  have z0 := hx.at 0 _ rfl
  have HP := Lib.hid (parse_any v now w hE (by omega))
  have hR : Stm.parseP (L v) (isMom now) (nowY now) = expC now (L v) := rfl
  rw [hR] at HP
  obtain ⟨r, hr⟩ := name_it (expC now (L v))
  rw [hr.out] at HP ⊢
  clear h hr hR hE hx
  obtain ⟨m, f, e, at_⟩ := r
  unfold parseV at HP
  simp only at HP ⊢
  by_cases he : e = 0
  · subst he
    rw [if_pos rfl]
    go_enter Tryz.func97, Tryz.ntmps97
    go_wp2_with fail
    refine HP.out.mono ?_; rintro e w1 ⟨rfl, hb⟩
    obtain ⟨q1, q2⟩ := did_next H.out (Keeps.refl _ _) hb
    have z := q1.at 6 _ rfl
    have y := q1.free 6
    obtain ⟨q3, q4⟩ := did_set (c' := { c with expires := m }) q1 q2 6 (.int .i64 m) (by decide) rfl
    have z5 := q3.at 7 _ rfl
    have y5 := q3.free 7
    have HD := Lib.hid (did_set (c' := { c with expires := m, hasExp := true }) q3 q4 7 (.bool true) (by decide) rfl)
    clear q1 q2 q3 q4 hb
    go_wp2_with fail
    refine bodyPost_end (results_none rfl _ _ _) rfl ?_
    exact ⟨rfl, HD.out.1, HD.out.2⟩
  · rw [if_neg he]
    have he2 : (e == 0) = false := by simpa using he
    go_enter Tryz.func97, Tryz.ntmps97
    go_wp2_with fail
    refine HP.out.mono ?_; rintro e w1 ⟨rfl, hb⟩
    go_wp2_with fail
    refine bodyPost_end (results_none rfl _ _ _) rfl ?_
    exact ⟨rfl, (did_next H.out (Keeps.refl _ _) hb).1, (did_next H.out (Keeps.refl _ _) hb).2⟩
end Go.Proofs.YtkenianfpfamcaaGreatDoor
namespace Go.Proofs.YtkenianfpfamcaaGreatDoor
open Go Go.RowKit Go.Maps Go.WideMaps
set_option maxHeartbeats 4000000

theorem lawS : Keyed Tryz.prog 9 := string_keyed Tryz.underlying9
def keyL (x : List UInt8) : Lit := .string x
theorem keyOk (x : List UInt8) : WideAt.IsKeyLit (keyL x) := trivial
theorem keyB (x : List UInt8) (h : x.length ≤ 1073741824) : keyOf Tryz.prog 9 (.string (bs x)) = some (keyL x) := keyOf_string_mk Tryz.underlying9 (by rw [size_bs]; unfold maxLen; omega)
theorem keyL_ne {a b : List UInt8} (h : a ≠ b) : keyL a ≠ keyL b := by intro e; injection e with e; exact h e
def fcV (n : Nat) : Value := .func (.func n) #[] #[]
def fbV (n bx : Nat) : Value := .func (.func n) #[] #[.pointer (some ⟨bx, 0, none⟩)]
open Classical in
/-- how an attribute's closure reads -/
noncomputable def RF (bx : Nat) (v : Value) : Option (DataW Unit × List MemPlace) :=
  if h : ∃ n, v = fcV n then some (.lit (.int .i64 (h.choose : Int)), [])
  else if h : ∃ n, v = fbV n bx then some (.lit (.int .i64 (-(h.choose : Int) - 2)), [])
  else if v = .nilFunc then some (.lit (.int .i64 (-1)), []) else none
theorem fcV_inj {a b : Nat} (h : fcV a = fcV b) : a = b := by unfold fcV at h; injection h with h; injection h
theorem fbV_inj {a b bx : Nat} (h : fbV a bx = fbV b bx) : a = b := by unfold fbV at h; injection h with h; injection h
theorem fb_fc {a b bx : Nat} : fbV a bx ≠ fcV b := by
  intro h
  unfold fbV fcV at h
  injection h with _ _ h
  cases h
theorem RF_fc (bx n : Nat) : RF bx (fcV n) = some (.lit (.int .i64 (n : Int)), []) := by
  unfold RF
  have h : ∃ m, fcV n = fcV m := ⟨n, rfl⟩
  rw [dif_pos h]
  have := fcV_inj h.choose_spec
  rw [← this]
theorem RF_fb (bx n : Nat) : RF bx (fbV n bx) = some (.lit (.int .i64 (-(n : Int) - 2)), []) := by
  unfold RF
  have h : ∃ m, fbV n bx = fbV m bx := ⟨n, rfl⟩
  rw [dif_neg (fun ⟨m, e⟩ => fb_fc e), dif_pos h]
  have := fbV_inj h.choose_spec
  rw [← this]
theorem RF_nil (bx : Nat) : RF bx .nilFunc = some (.lit (.int .i64 (-1)), []) := by
  unfold RF
  rw [dif_neg (fun ⟨m, e⟩ => by cases e), dif_neg (fun ⟨m, e⟩ => by cases e), if_pos rfl]
def attN (W : List UInt8) : Int :=
  if W = wExpires then -97 - 2 else if W = wMaxAge then 99 else if W = wDomain then 101 else if W = wPath then 103
  else if W = wSecure then 104 else if W = wHttp then 105 else if W = wSame then 106 else -1
def aL (n : Int) : DataW Unit := .lit (.int .i64 n)
def attD1 : DataW Unit := (DataW.map []).put (keyL wExpires) (aL (-97 - 2))
def attD2 : DataW Unit := attD1.put (keyL wMaxAge) (aL 99)
def attD3 : DataW Unit := attD2.put (keyL wDomain) (aL 101)
def attD4 : DataW Unit := attD3.put (keyL wPath) (aL 103)
def attD5 : DataW Unit := attD4.put (keyL wSecure) (aL 104)
def attD6 : DataW Unit := attD5.put (keyL wHttp) (aL 105)
def attD7 : DataW Unit := attD6.put (keyL wSame) (aL 106)
theorem put_at {D : DataW Unit} (hD : IsMap D) (x W : List UInt8) (n : Int) (z : DataW Unit) : (D.put (keyL x) (aL n)).atKey (keyL W) z = if W = x then aL n else D.atKey (keyL W) z := by
  by_cases h : W = x
  · subst h; rw [if_pos rfl, atKey_put_same hD (keyOk _)]
  · rw [if_neg h, atKey_put_other (keyL_ne h)]
theorem att_at (W : List UInt8) : attD7.atKey (keyL W) (aL (-1)) = aL (attN W) := by
  have m0 : IsMap (DataW.map [] : DataW Unit) := isMap_empty
  have m1 : IsMap attD1 := m0.put _ _
  have m2 : IsMap attD2 := m1.put _ _
  have m3 : IsMap attD3 := m2.put _ _
  have m4 : IsMap attD4 := m3.put _ _
  have m5 : IsMap attD5 := m4.put _ _
  have m6 : IsMap attD6 := m5.put _ _
  unfold attD7
  rw [put_at m6]
  unfold attD6
  rw [put_at m5]
  unfold attD5
  rw [put_at m4]
  unfold attD4
  rw [put_at m3]
  unfold attD3
  rw [put_at m2]
  unfold attD2
  rw [put_at m1]
  unfold attD1
  rw [put_at m0]
  have e0 : (DataW.map [] : DataW Unit).atKey (keyL W) (aL (-1)) = aL (-1) := rfl
  rw [e0]
  unfold attN
  by_cases h1 : W = wExpires
  · subst h1; rfl
  rw [if_neg h1, if_neg h1]
  by_cases h2 : W = wMaxAge
  · subst h2; rfl
  rw [if_neg h2, if_neg h2]
  by_cases h3 : W = wDomain
  · subst h3; rfl
  rw [if_neg h3, if_neg h3]
  by_cases h4 : W = wPath
  · subst h4; rfl
  rw [if_neg h4, if_neg h4]
  by_cases h5 : W = wSecure
  · subst h5; rfl
  rw [if_neg h5, if_neg h5]
  by_cases h6 : W = wHttp
  · subst h6; rfl
  rw [if_neg h6, if_neg h6]
  by_cases h7 : W = wSame
  · subst h7; rfl
  rw [if_neg h7, if_neg h7]
theorem RF_inv {bx : Nat} {v : Value} {n : Int} {ps : List MemPlace} (h : RF bx v = some (aL n, ps)) : (n = -1 ∧ v = .nilFunc) ∨ (∃ k : Nat, n = k ∧ v = fcV k) ∨ (∃ k : Nat, n = -(k : Int) - 2 ∧ v = fbV k bx) := by
  unfold RF at h
  by_cases h1 : ∃ m, v = fcV m
  · rw [dif_pos h1] at h
    injection h with h; injection h with h _; injection h with h; injection h with _ h
    exact Or.inr (Or.inl ⟨h1.choose, h.symm, h1.choose_spec⟩)
  · rw [dif_neg h1] at h
    by_cases h2 : ∃ m, v = fbV m bx
    · rw [dif_pos h2] at h
      injection h with h; injection h with h _; injection h with h; injection h with _ h
      exact Or.inr (Or.inr ⟨h2.choose, h.symm, h2.choose_spec⟩)
    · rw [dif_neg h2] at h
      split at h
      · rename_i hv
        injection h with h; injection h with h _; injection h with h; injection h with _ h
        exact Or.inl ⟨h.symm, hv⟩
      · cases h
/-- the closure of a word -/
theorem att_val {bx : Nat} {v : Value} {W : List UInt8} {ps : List MemPlace} (h : RF bx v = some (attD7.atKey (keyL W) (aL (-1)), ps)) :
    (W = wExpires ∧ v = fbV 97 bx) ∨ (W = wMaxAge ∧ v = fcV 99) ∨ (W = wDomain ∧ v = fcV 101) ∨ (W = wPath ∧ v = fcV 103) ∨
    (W = wSecure ∧ v = fcV 104) ∨ (W = wHttp ∧ v = fcV 105) ∨ (W = wSame ∧ v = fcV 106) ∨
    ((W ≠ wExpires ∧ W ≠ wMaxAge ∧ W ≠ wDomain ∧ W ≠ wPath ∧ W ≠ wSecure ∧ W ≠ wHttp ∧ W ≠ wSame) ∧ v = .nilFunc) := by
  rw [att_at] at h
  have hv := RF_inv h
  clear h
  have one : ∀ m : Nat, m < 1000 → attN W = m → v = fcV m := by
    intro m hm e
    rw [e] at hv
    rcases hv with ⟨h, _⟩ | ⟨k, h, hv⟩ | ⟨k, h, _⟩
    · omega
    · have : k = m := by omega
      rw [hv, this]
    · omega
  by_cases h1 : W = wExpires
  · left
    refine ⟨h1, ?_⟩
    have e : attN W = -97 - 2 := by subst h1; rfl
    rw [e] at hv
    rcases hv with ⟨h, _⟩ | ⟨k, h, hv⟩ | ⟨k, h, hv⟩
    · omega
    · omega
    · have : k = 97 := by omega
      rw [hv, this]
  right
  by_cases h2 : W = wMaxAge
  · left; exact ⟨h2, one _ (by decide) (by subst h2; rfl)⟩
  right
  by_cases h3 : W = wDomain
  · left; exact ⟨h3, one _ (by decide) (by subst h3; rfl)⟩
  right
  by_cases h4 : W = wPath
  · left; exact ⟨h4, one _ (by decide) (by subst h4; rfl)⟩
  right
  by_cases h5 : W = wSecure
  · left; exact ⟨h5, one _ (by decide) (by subst h5; rfl)⟩
  right
  by_cases h6 : W = wHttp
  · left; exact ⟨h6, one _ (by decide) (by subst h6; rfl)⟩
  right
  by_cases h7 : W = wSame
  · left; exact ⟨h7, one _ (by decide) (by subst h7; rfl)⟩
  right
  refine ⟨⟨h1, h2, h3, h4, h5, h6, h7⟩, ?_⟩
  have e : attN W = -1 := by
    unfold attN
    rw [if_neg h1, if_neg h2, if_neg h3, if_neg h4, if_neg h5, if_neg h6, if_neg h7]
  rw [e] at hv
  rcases hv with ⟨_, hv⟩ | ⟨k, h, _⟩ | ⟨k, h, _⟩
  · exact hv
  · omega
  · omega
abbrev tFm : TypeId := 96
abbrev tFn : TypeId := 100
theorem zeroF (w : World) : (zeroValue tFn).run Tryz.prog w = .ok .nilFunc w := by kernel_rfl
theorem undF : Tryz.prog.underlying tFm = some (.map 9 tFn) := Tryz.underlying96
/-- what the map of attributes is good for -/
structure Atts (w : World) (bx mb : Nat) (now : Int) : Prop where
  own : w.ownsMap Tryz.prog 9 (RF bx) mb 7 attD7
  box : CellsAt w bx [.int .i64 now]
set_option maxRecDepth 100000 in
theorem attributes_any (now : Int) (w : World) :
    Calls Tryz.prog 53 #[.int .i64 now] w fun e w' => e = .returned (.map (some (w.heap.size + 1))) ∧ Atts w' w.heap.size (w.heap.size + 1) now ∧ Below w.heap.size w w' := by
  have hmm := @run_makeMap Tryz.prog
  have BX := Lib.hid (CellsAt.first w [.int .i64 now] 3)
  have B1 := below_put2 (w := w) (cs := #[.int .i64 now]) (T := 3)
  have z1 : (w.alloc (.cells #[.int .i64 now] 3)).heap.size = w.heap.size + 1 := Array.size_push ..
  have OWN0 := Lib.hid (World.ownsMap_made (H := Unit) (w.alloc (.cells #[.int .i64 now] 3)) Tryz.prog 9 (RF w.heap.size))
  have B2 := B1.alloc (by rw [z1]; omega) (.map #[] 0)
  have BX2 := Lib.hid (BX.out.next ((Below.refl _ _).alloc (Nat.le_refl _) (.map #[] 0)))
  rw [z1] at OWN0
  have Z1 := Lib.hid z1
  have B2' := Lib.hid B2
  clear B1 B2 BX z1
  obtain ⟨w1, r1, o1, g1⟩ := OWN0.out.update lawS undF (by decide) (keyB wExpires (by decide)) (RF_fb w.heap.size 97)
  obtain ⟨w2, r2, o2, g2⟩ := o1.update lawS undF (by decide) (keyB wMaxAge (by decide)) (RF_fc w.heap.size 99)
  obtain ⟨w3, r3, o3, g3⟩ := o2.update lawS undF (by decide) (keyB wDomain (by decide)) (RF_fc w.heap.size 101)
  obtain ⟨w4, r4, o4, g4⟩ := o3.update lawS undF (by decide) (keyB wPath (by decide)) (RF_fc w.heap.size 103)
  obtain ⟨w5, r5, o5, g5⟩ := o4.update lawS undF (by decide) (keyB wSecure (by decide)) (RF_fc w.heap.size 104)
  obtain ⟨w6, r6, o6, g6⟩ := o5.update lawS undF (by decide) (keyB wHttp (by decide)) (RF_fc w.heap.size 105)
  obtain ⟨w7, r7, o7, g7⟩ := o6.update lawS undF (by decide) (keyB wSame (by decide)) (RF_fc w.heap.size 106)
  have kp : Keeps (fun i => i = w.heap.size + 1) ((w.alloc (.cells #[.int .i64 now] 3)).alloc (.map #[] 0)) w7 :=
    (((((((keeps_grown (S := fun i => i = w.heap.size + 1) g1 rfl).trans (keeps_grown (S := fun i => i = w.heap.size + 1) g2 rfl)).trans (keeps_grown (S := fun i => i = w.heap.size + 1) g3 rfl)).trans (keeps_grown (S := fun i => i = w.heap.size + 1) g4 rfl)).trans (keeps_grown (S := fun i => i = w.heap.size + 1) g5 rfl)).trans (keeps_grown (S := fun i => i = w.heap.size + 1) g6 rfl)).trans (keeps_grown (S := fun i => i = w.heap.size + 1) g7 rfl))
  have AT : Hid (Atts w7 w.heap.size (w.heap.size + 1) now) := ⟨o7, BX2.out.keeps kp (by omega)⟩
  have BZ := Lib.hid (B2'.out.trans (kp.below (B := w.heap.size) (fun i hi h => by omega) B2'.out.size))
  clear o1 o2 o3 o4 o5 o6 o7 g1 g2 g3 g4 g5 g6 g7 kp OWN0 BX2 B2'
  unfold fbV at r1
  unfold fcV at r2 r3 r4 r5 r6 r7
  have r1 : ((Instr.mapUpdate 96 (Value.map (some (w.heap.size + 1))) (Value.string ⟨#[101, 120, 112, 105, 114, 101, 115]⟩) (Value.func (Fn.func 97) #[] #[Value.pointer (some { block := w.heap.size, off := 0 })])).run Tryz.prog _) = _ := r1
  have r2 : ((Instr.mapUpdate 96 (Value.map (some (w.heap.size + 1))) (Value.string ⟨#[109, 97, 120, 45, 97, 103, 101]⟩) _).run Tryz.prog _) = _ := r2
  have r3 : ((Instr.mapUpdate 96 (Value.map (some (w.heap.size + 1))) (Value.string ⟨#[100, 111, 109, 97, 105, 110]⟩) _).run Tryz.prog _) = _ := r3
  have r4 : ((Instr.mapUpdate 96 (Value.map (some (w.heap.size + 1))) (Value.string ⟨#[112, 97, 116, 104]⟩) _).run Tryz.prog _) = _ := r4
  have r5 : ((Instr.mapUpdate 96 (Value.map (some (w.heap.size + 1))) (Value.string ⟨#[115, 101, 99, 117, 114, 101]⟩) _).run Tryz.prog _) = _ := r5
  have r6 : ((Instr.mapUpdate 96 (Value.map (some (w.heap.size + 1))) (Value.string ⟨#[104, 116, 116, 112, 111, 110, 108, 121]⟩) _).run Tryz.prog _) = _ := r6
  have r7 : ((Instr.mapUpdate 96 (Value.map (some (w.heap.size + 1))) (Value.string ⟨#[115, 97, 109, 101, 115, 105, 116, 101]⟩) _).run Tryz.prog _) = _ := r7
  go_enter Tryz.func53, Tryz.ntmps53
  go_wp2_with fail
  go_ret
  exact ⟨rfl, AT.out, BZ.out⟩
end Go.Proofs.YtkenianfpfamcaaGreatDoor
