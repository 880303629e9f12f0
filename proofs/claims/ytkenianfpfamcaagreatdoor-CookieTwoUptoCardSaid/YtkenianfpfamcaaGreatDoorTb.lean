/- A jar that may be nil, and the document's: what each call answers. The law's step: a jar and the document's, one call. -/
import Derived.Test.YtkenianfpfamcaaGreatDoorTa
import Derived.Test.YtkenianfpfamcaaGreatDoorLawGdJ
namespace Go.Proofs.YtkenianfpfamcaaGreatDoor
open Go Go.RowKit
set_option maxHeartbeats 16000000

/-- a jar of so many, or none -/
def Jv (wx : World) (jv : Value) (jb mb most n : Nat) (l : List It) : Prop :=
  (most = 0 ∧ jv = .pointer none ∧ l = []) ∨ (1 ≤ most ∧ jv = ptrV jb ∧ JarAt wx jb mb most n l ∧ l.length ≤ most)
theorem Jv.next {wx wy : World} {jv : Value} {jb mb most n : Nat} {l : List It} (h : Jv wx jv jb mb most n l) (hb : Below wx.heap.size wx wy) : Jv wy jv jb mb most n l := by
  rcases h with h | ⟨h1, h2, h3, h4⟩
  · exact Or.inl h
  · exact Or.inr ⟨h1, h2, h3.next_ hb, h4⟩
theorem Jv.len {wx : World} {jv : Value} {jb mb most n : Nat} {l : List It} (h : Jv wx jv jb mb most n l) : l.length ≤ most := by
  rcases h with ⟨_, _, h⟩ | ⟨_, _, _, h⟩
  · rw [h]; exact Nat.zero_le _
  · exact h
theorem Jv.most {wx : World} {jv : Value} {jb mb most n : Nat} {l : List It} (h : Jv wx jv jb mb most n l) : most ≤ 3000 := by
  rcases h with ⟨h, _⟩ | ⟨_, _, h, _⟩
  · omega
  · exact h.most
def failV (most : Nat) (l : List Kp) (c : SetC) (host path : List UInt8) (sec : Bool) (now : Int) : Int := if most = 0 then 1 else failC l c host path sec now
def setV2 (most : Nat) (l : List Kp) (c : SetC) (host path : List UInt8) (sec : Bool) (now : Int) : List Kp := if most = 0 then l else setJ most l c host path sec now
theorem jv_set (wx : World) (jv : Value) (jb mb most n : Nat) (l : List It) (c : SetC) (host path : List UInt8) (sec : Bool) (now : Int) (h : Jv wx jv jb mb most n l) (hE : EnvK wx) (hf : FitC c) (hh : host.length ≤ 1073741824) (hp : path.length ≤ 1073741824) (hn : n < 1099511627776) :
    Calls Tryz.prog 26 #[jv, .agg (cellsS c).toArray, .string (bs host), .string (bs path), .bool sec, .int .i64 now] wx fun e w' => e = .returned (.int .i64 (failV most (l.map It.k) c host path sec now)) ∧ Keeps (fun i => most ≠ 0 ∧ (i = jb ∨ i = mb)) wx w' ∧
      ∃ l' n', Jv w' jv jb mb most n' l' ∧ l'.map It.k = setV2 most (l.map It.k) c host path sec now ∧ n' ≤ n + 1 := by
  rcases h with ⟨h1, h2, h3⟩ | ⟨h1, h2, h3, h4⟩
  · subst h1 h2 h3
    refine (set_nil _ (bs host) (bs path) sec now c wx rfl).mono ?_
    rintro e w' ⟨rfl, hb⟩
    exact ⟨rfl, Keeps.of hb (Nat.le_refl _), [], n, Or.inl ⟨rfl, rfl, rfl⟩, rfl, Nat.le_succ _⟩
  · subst h2
    have hS := set_any wx jb mb most n l c (bs host) (bs path) sec now h3 hE hf (by rw [size_bs]; exact hh) (by rw [size_bs]; exact hp) hn h4 h1
    simp only [L_bs] at hS
    refine hS.mono ?_
    rintro e w' ⟨rfl, hk, l', n', hj, hl, _, hn'⟩
    refine ⟨by unfold failV; rw [if_neg (by omega)], hk.mono (fun i _ e => ⟨by omega, e⟩), l', n', Or.inr ⟨h1, rfl, hj, ?_⟩, by unfold setV2; rw [if_neg (by omega)]; exact hl, hn'⟩
    have := setJ_len (l := l.map It.k) (by rw [List.length_map]; exact h4) c host path sec now
    rw [← hl, List.length_map] at this
    exact this
theorem jv_get (wx : World) (jv : Value) (jb mb most n : Nat) (l : List It) (host path : List UInt8) (sec : Bool) (now : Int) (h : Jv wx jv jb mb most n l) (hh : host.length ≤ 1073741824) (hp : path.length ≤ 1073741824) (hn : n ≤ 1099511627776) :
    Calls Tryz.prog 27 #[jv, .string (bs host), .string (bs path), .bool sec, .int .i64 now] wx fun e w' => (∃ v, e = .returned v ∧ CkRow w' wx.heap.size v (getJ (l.map It.k) host path sec now)) ∧ Below wx.heap.size wx w' := by
  rcases h with ⟨h1, h2, h3⟩ | ⟨h1, h2, h3, h4⟩
  · subst h1 h2 h3
    exact get_nil wx (bs host) (bs path) sec now
  · subst h2
    have hS := get_any wx jb mb most n l (bs host) (bs path) sec now h3 hn (by have := h3.most; omega) (by rw [size_bs]; exact hh) (by rw [size_bs]; exact hp)
    simp only [L_bs] at hS
    exact hS
theorem jv_all (wx : World) (jv : Value) (jb mb most n : Nat) (l : List It) (h : Jv wx jv jb mb most n l) (hn : n ≤ 1099511627776) :
    Calls Tryz.prog 28 #[jv] wx fun e w' => (∃ v, e = .returned v ∧ SetRow w' wx.heap.size v (allI l)) ∧ Below wx.heap.size wx w' := by
  rcases h with ⟨h1, h2, h3⟩ | ⟨h1, h2, h3, h4⟩
  · subst h1 h2 h3
    exact all_nil wx
  · subst h2
    exact all_any wx jb mb most n l h3 hn (by have := h3.most; omega)
theorem jv_len (wx : World) (jv : Value) (jb mb most n : Nat) (l : List It) (h : Jv wx jv jb mb most n l) (hn : n ≤ 1099511627776) :
    Calls Tryz.prog 34 #[jv] wx fun e w' => e = .returned (.int .i64 l.length) ∧ Below wx.heap.size wx w' := by
  rcases h with ⟨h1, h2, h3⟩ | ⟨h1, h2, h3, h4⟩
  · subst h1 h2 h3
    exact len_nil wx
  · subst h2
    exact len_any wx jb mb most n l h3 hn (by have := h3.most; omega)
theorem jv_sweep (wx : World) (jv : Value) (jb mb most n : Nat) (l : List It) (now : Int) (h : Jv wx jv jb mb most n l) (hn : n ≤ 1099511627776) :
    Calls Tryz.prog 69 #[jv, .int .i64 now] wx fun e w' => e = .returned (.int .i64 ((l.length : Int) - (sweepC (l.map It.k) now).length)) ∧ Keeps (fun i => most ≠ 0 ∧ (i = jb ∨ i = mb)) wx w' ∧
      ∃ l', Jv w' jv jb mb most n l' ∧ l'.map It.k = sweepC (l.map It.k) now := by
  rcases h with ⟨h1, h2, h3⟩ | ⟨h1, h2, h3, h4⟩
  · subst h1 h2 h3
    refine (sweep_nil wx now).mono ?_
    rintro e w' ⟨rfl, hb⟩
    exact ⟨rfl, Keeps.of hb (Nat.le_refl _), [], Or.inl ⟨rfl, rfl, rfl⟩, rfl⟩
  · subst h2
    refine (sweep_any wx jb mb most n l now h3 hn (by have := h3.most; omega)).mono ?_
    rintro e w' ⟨rfl, hj, hk⟩
    have hl := filter_k l now
    refine ⟨by rw [← hl, List.length_map], hk.mono (fun i _ e => ⟨by omega, Or.inr e⟩), _, Or.inr ⟨h1, rfl, hj, ?_⟩, hl⟩
    exact Nat.le_trans (List.length_filter_le _ _) h4
theorem jv_fit {wx : World} {jv : Value} {jb mb most n : Nat} {l : List It} (h : Jv wx jv jb mb most n l) : ∀ k ∈ l.map It.k, k.dom.length ≤ 1073741824 ∧ k.path.length ≤ 1073741824 := by
  rcases h with ⟨_, _, h⟩ | ⟨_, _, h, _⟩
  · rw [h]; intro k hk; cases hk
  · exact kp_fit h
theorem rset_v (wx : World) (jv : Value) (jb mb most n : Nat) (l : List It) (q : Option Addr) (cap : Nat) (c : SetC) (host path : List UInt8) (sec : Bool) (now : Int) (h : Jv wx jv jb mb most n l) (w : World) (hL : KpL w q (l.map It.k)) (hc : (l.map It.k).length ≤ cap)
    (hf : FitC c) (hh : host.length ≤ 1073741824) (hp : path.length ≤ 1073741824) :
    Calls Tryz.prog 25 #[.agg #[.int .i64 most, .slice q (l.map It.k).length cap], .agg (cellsS c).toArray, .agg #[.string (bs host), .string (bs path), .bool sec, .int .i64 now]] w fun e w' =>
      (∃ q' cap', e = .returned (.tuple #[.agg #[.int .i64 most, .slice q' (setV2 most (l.map It.k) c host path sec now).length cap'], .int .i64 (failV most (l.map It.k) c host path sec now)]) ∧ (setV2 most (l.map It.k) c host path sec now).length ≤ cap' ∧ KpL w' q' (setV2 most (l.map It.k) c host path sec now) ∧ (q' = q ∧ setV2 most (l.map It.k) c host path sec now = l.map It.k ∨ ∀ g off, q' = some ⟨g, off, none⟩ → w.heap.size ≤ g)) ∧ Below w.heap.size w w' := by
  rcases h with ⟨h1, h2, h3⟩ | ⟨h1, h2, h3, h4⟩
  · subst h1 h2 h3
    refine (rset_nil q cap c host path sec now w).mono ?_
    rintro e w' ⟨rfl, hb⟩
    exact ⟨⟨q, cap, rfl, hc, ⟨Or.inl rfl⟩, Or.inl ⟨rfl, rfl⟩⟩, hb⟩
  · have hm := h3.most
    have hv : setV2 most (l.map It.k) c host path sec now = setJ most (l.map It.k) c host path sec now := by unfold setV2; rw [if_neg (by omega)]
    have hw : failV most (l.map It.k) c host path sec now = failC (l.map It.k) c host path sec now := by unfold failV; rw [if_neg (by omega)]
    rw [hv, hw]
    refine (rset_any most q cap (l.map It.k) c host path sec now w hL hc h1 hm (by rw [List.length_map]; exact h4) (by rw [List.map_map]; exact h3.keys) hf hh hp).mono ?_
    rintro e w' ⟨⟨q', c', he, h5, h6, h7⟩, hb⟩
    exact ⟨⟨q', c', he, h5, h6, h7⟩, hb⟩
end Go.Proofs.YtkenianfpfamcaaGreatDoor
namespace Go.Proofs.YtkenianfpfamcaaGreatDoor
open Go Go.RowKit
set_option maxHeartbeats 16000000

theorem Lies.keepsN {α : Type} {f : α → List Value} {n : Nat} {S : Nat → Prop} {w w' : World} {p : Option Addr} {l : List α} (h : Lies f n w p l) (K : Keeps S w w') (hq : l ≠ [] → ∀ g off, p = some ⟨g, off, none⟩ → ¬ S g) : Lies f n w' p l := by
  by_cases hl : l = []
  · exact ⟨Or.inl hl⟩
  · exact h.keeps K (hq hl)
/-- what a step leaves -/
def StepOut (w : World) (jv : Value) (jb mb most n : Nat) (k0 : List Kp) (q q' : Option Addr) (cap' : Nat) (l' : List It) (n' : Nat) (w0 : World) : Prop :=
  Jv w0 jv jb mb most n' l' ∧ KpL w0 q' (l'.map It.k) ∧ (l'.map It.k).length ≤ cap' ∧ (q' = q ∧ l'.map It.k = k0 ∨ ∀ g off, q' = some ⟨g, off, none⟩ → w.heap.size ≤ g) ∧ n' ≤ n + 1 ∧ Keeps (fun i => most ≠ 0 ∧ (i = jb ∨ i = mb)) w w0
/-- the blocks of a step -/
structure Sx (w : World) (b4 b5 b6 b8 : Nat) (jv : Value) (jb mb most n : Nat) (q : Option Addr) (cap : Nat) (l : List It) (o : OpC) (wx : World) : Prop where
  k4 : CellsAt wx b4 [.int .i64 most, .slice q (l.map It.k).length cap]
  k5 : CellsAt wx b5 (cellsO o)
  k6 : CellsAt wx b6 [.int .i64 0, .slice none 0 0]
  k8 : CellsAt wx b8 [.string (bs o.host), .string (bs o.path), .bool o.secure, .int .i64 o.now]
  j : Jv wx jv jb mb most n l
  d : KpL wx q (l.map It.k)
  cp : (l.map It.k).length ≤ cap
  bl : Below w.heap.size w wx
  ne : b4 ≠ b5 ∧ b4 ≠ b6 ∧ b4 ≠ b8 ∧ b5 ≠ b6 ∧ b5 ≠ b8 ∧ b6 ≠ b8
  low : w.heap.size ≤ b4 ∧ w.heap.size ≤ b5 ∧ w.heap.size ≤ b6 ∧ w.heap.size ≤ b8
  jl : most ≠ 0 → jb < w.heap.size ∧ mb < w.heap.size
  ql : l.map It.k ≠ [] → ∀ g off, q = some ⟨g, off, none⟩ → g < w.heap.size
  qj : l.map It.k ≠ [] → ∀ g off, q = some ⟨g, off, none⟩ → ¬ (most ≠ 0 ∧ (g = jb ∨ g = mb))
theorem Sx.next {w : World} {b4 b5 b6 b8 : Nat} {jv : Value} {jb mb most n : Nat} {q : Option Addr} {cap : Nat} {l : List It} {o : OpC} {wx wy : World} (h : Sx w b4 b5 b6 b8 jv jb mb most n q cap l o wx) (hb : Below wx.heap.size wx wy) : Sx w b4 b5 b6 b8 jv jb mb most n q cap l o wy :=
  ⟨h.k4.next hb, h.k5.next hb, h.k6.next hb, h.k8.next hb, h.j.next hb, h.d.next hb, h.cp, h.bl.trans (hb.mono h.bl.size), h.ne, h.low, h.jl, h.ql, h.qj⟩
/-- nothing but the result has been written: what a step leaves then -/
theorem Sx.out {w : World} {b4 b5 b6 b8 : Nat} {jv : Value} {jb mb most n : Nat} {q : Option Addr} {cap : Nat} {l : List It} {o : OpC} {wx : World} (h : Sx w b4 b5 b6 b8 jv jb mb most n q cap l o wx) :
    StepOut w jv jb mb most n (l.map It.k) q q cap l n (putAll wx b6 0 [.int .i64 most, .slice q (l.map It.k).length cap]) ∧ CellsAt (putAll wx b6 0 [.int .i64 most, .slice q (l.map It.k).length cap]) b6 [.int .i64 most, .slice q (l.map It.k).length cap] := by
  have hk := Keeps.put (S := fun i => i = b6) (b := b6) rfl [.int .i64 most, .slice q (l.map It.k).length cap] 0 wx
  have hb : Below w.heap.size w (putAll wx b6 0 [.int .i64 most, .slice q (l.map It.k).length cap]) := putAll_below _ 0 _ _ h.bl h.low.2.2.1
  refine ⟨⟨?_, ?_, h.cp, Or.inl ⟨rfl, rfl⟩, Nat.le_succ _, Keeps.of hb (Nat.le_refl _)⟩, h.k6.put _ rfl⟩
  · rcases h.j with hj | ⟨h1, h2, h3, h4⟩
    · exact Or.inl hj
    · have hjl := h.jl (by omega)
      have hl := h.low
      exact Or.inr ⟨h1, h2, h3.keeps hk (fun e => by omega) (fun e => by omega) (fun x hx e => box_ne h.k6 h3 x hx e), h4⟩
  · exact h.d.keepsN hk (fun hx g off e he => by have := h.ql hx g off e; have := h.low; omega)
noncomputable def stepFrom8 : Code := ((Tryz.f32.body.bind (fromReg 8)).getD .skip)
set_option maxRecDepth 100000 in
theorem step_t8 {Q : Exit → Act → World → Prop} {K : Act → World → Prop} (hK : ∀ a w, Code.wp Tryz.prog (seqTl stepFrom8) Q a w → K a w) {w w1 : World} {jv : Value} {jb mb most n b4 b5 b6 b8 : Nat} {q : Option Addr} {cap : Nat} {l : List It} {nm v pp d : List UInt8} {ma : Int} {hm : Bool} {ex : Int} {he sc ht : Bool} {sm kd : Int} {host path : List UInt8} {sec : Bool} {now : Int}
    (X : Hid (Sx w b4 b5 b6 b8 jv jb mb most n q cap l (⟨kd, ⟨nm, v, pp, d, ma, hm, ex, he, sc, ht, sm⟩, host, path, sec, now⟩ : OpC) w1)) (hh : host.length ≤ 1073741824) (hp : path.length ≤ 1073741824) (hn : n ≤ 549755813888) 
    {c1 c2 c3 c7 c9 c10 c11 c12 c13 c14 c15 c16 c17 c18 c19 c20 c21 c22 c23 c24 c25 c26 c27 c28 c29 c30 c31 c32 c33 c34 c35 c36 c37 c38 c39 c40 c41 c42 c43 c44 c45 c46 c47 c48 c49 c50 c51 c52 c53 c54 c55 c56 c57 c58 c59 c60 c61 c62 c63 c64 c65 c66 c67 c68 c69 c70 c71 c72 c73 c74 c75 c76 c77 c78 c79 c80 c81 c82 c83 c84 c85 c86 c87 c88 c89 c90 c91 c92 c93 c94 c95 : Value}
    (hret : ∀ (d0 d1 d2 d3 d4 d5 d8 d9 d10 d11 d12 d13 d14 d15 d16 d17 d18 d19 d20 d21 d22 d23 d24 d25 d26 d27 d28 d29 d30 d31 d32 d33 d34 d35 d36 d37 d38 d39 d40 d41 d42 d43 d44 d45 d46 d47 d48 d49 d50 d51 d52 d53 d54 d55 d56 d57 d58 d59 d60 d61 d62 d63 d64 d65 d66 d67 d68 d69 d70 d71 d72 d73 d74 d75 d76 d77 d78 d79 d80 d81 d82 d83 d84 d85 d86 d87 d88 d89 d90 d91 d92 d93 d94 d95 : Value) (q9 : Option Addr) (cap9 : Nat) (l9 : List It) (n9 : Nat) (w0 : World), StepOut w jv jb mb most n (l.map It.k) q q9 cap9 l9 n9 w0 → w0.cell? ⟨b6, 0, none⟩ = some (.int .i64 most) → w0.cell? ⟨b6, 1, none⟩ = some (.slice q9 (l9.map It.k).length cap9) → Q .ret ⟨List.toArray (d0 :: d1 :: d2 :: d3 :: d4 :: d5 :: .pointer (some ⟨b6, 0, none⟩) :: .bool true :: d8 :: d9 :: d10 :: d11 :: d12 :: d13 :: d14 :: d15 :: d16 :: d17 :: d18 :: d19 :: d20 :: d21 :: d22 :: d23 :: d24 :: d25 :: d26 :: d27 :: d28 :: d29 :: d30 :: d31 :: d32 :: d33 :: d34 :: d35 :: d36 :: d37 :: d38 :: d39 :: d40 :: d41 :: d42 :: d43 :: d44 :: d45 :: d46 :: d47 :: d48 :: d49 :: d50 :: d51 :: d52 :: d53 :: d54 :: d55 :: d56 :: d57 :: d58 :: d59 :: d60 :: d61 :: d62 :: d63 :: d64 :: d65 :: d66 :: d67 :: d68 :: d69 :: d70 :: d71 :: d72 :: d73 :: d74 :: d75 :: d76 :: d77 :: d78 :: d79 :: d80 :: d81 :: d82 :: d83 :: d84 :: d85 :: d86 :: d87 :: d88 :: d89 :: d90 :: d91 :: d92 :: d93 :: d94 :: d95 :: []), []⟩ w0) :
    Code.wp Tryz.prog (seqHd stepFrom8) (Exit.then K Q) ⟨List.toArray (jv :: c1 :: c2 :: c3 :: .pointer (some ⟨b4, 0, none⟩) :: .pointer (some ⟨b5, 0, none⟩) :: .pointer (some ⟨b6, 0, none⟩) :: c7 :: .pointer (some ⟨b8, 0, none⟩) :: c9 :: c10 :: c11 :: c12 :: c13 :: c14 :: c15 :: c16 :: c17 :: c18 :: c19 :: c20 :: c21 :: c22 :: c23 :: c24 :: c25 :: c26 :: c27 :: c28 :: c29 :: c30 :: c31 :: c32 :: c33 :: c34 :: c35 :: c36 :: c37 :: c38 :: c39 :: c40 :: c41 :: c42 :: c43 :: c44 :: c45 :: c46 :: c47 :: c48 :: c49 :: c50 :: c51 :: c52 :: c53 :: c54 :: c55 :: c56 :: c57 :: c58 :: c59 :: c60 :: c61 :: c62 :: c63 :: c64 :: c65 :: c66 :: c67 :: c68 :: c69 :: c70 :: c71 :: c72 :: c73 :: c74 :: c75 :: c76 :: c77 :: c78 :: c79 :: c80 :: c81 :: c82 :: c83 :: c84 :: c85 :: c86 :: c87 :: c88 :: c89 :: c90 :: c91 :: c92 :: c93 :: c94 :: c95 :: []), []⟩ w1 := by
  have HRT := Lib.hid hret
  clear hret
  have hmost := X.out.j.most
  have hlen := X.out.j.len
  have HMK : Hid ((l.map It.k).length = l.length) := List.length_map ..
  have NE := Lib.hid X.out.ne
  have PG := Lib.hid (fun W (hW : Below w1.heap.size w1 W) => jv_get W jv jb mb most n l host path sec now (X.out.j.next hW) hh hp (by omega))
  have RG := Lib.hid (fun W (hW : Below w1.heap.size w1 W) => rget_any most q cap (l.map It.k) host path sec now W (X.out.d.next hW) (by rw [HMK.out]; omega) hh hp (jv_fit X.out.j))
  have hgl := getJ_len (l.map It.k) host path sec now
  rw [HMK.out] at hgl
  obtain ⟨G, hG⟩ := name_it (getJ (l.map It.k) host path sec now)
  rw [hG.out] at PG RG hgl
  have HGL : Hid (G.length ≤ 3000) := by unfold Hid; omega
  have X4 := Lib.hid X.out.k4
  obtain ⟨kn, hkn⟩ := name_it (l.map It.k).length
  have HKN : Hid ((l.map It.k).length = kn) := hkn
  rw [hkn.out] at X4 RG
  clear hkn hG hgl
  have SK : Hid (∀ W, Below w1.heap.size w1 W → W.cell? ⟨b4, 0, none⟩ = some (.int .i64 most) ∧ W.cell? ⟨b4, 1, none⟩ = some (.slice q kn cap) ∧ W.cell? ⟨b5, 12, none⟩ = some (.string (bs host)) ∧ W.cell? ⟨b5, 13, none⟩ = some (.string (bs path)) ∧ W.cell? ⟨b5, 14, none⟩ = some (.bool sec) ∧ W.cell? ⟨b5, 15, none⟩ = some (.int .i64 now) ∧ W.cell? ⟨b8, 0, none⟩ = some (.string (bs host)) ∧ W.cell? ⟨b8, 1, none⟩ = some (.string (bs path)) ∧ W.cell? ⟨b8, 2, none⟩ = some (.bool sec) ∧ W.cell? ⟨b8, 3, none⟩ = some (.int .i64 now)) := fun W hW => ⟨(X4.out.next hW).at 0 _ rfl, (X4.out.next hW).at 1 _ rfl, (X.out.k5.next hW).at 12 _ rfl, (X.out.k5.next hW).at 13 _ rfl, (X.out.k5.next hW).at 14 _ rfl, (X.out.k5.next hW).at 15 _ rfl, (X.out.k8.next hW).at 0 _ rfl, (X.out.k8.next hW).at 1 _ rfl, (X.out.k8.next hW).at 2 _ rfl, (X.out.k8.next hW).at 3 _ rfl⟩
  have SP : Hid (∀ W, Below w1.heap.size w1 W → ∀ u v, ((W.setCell ⟨b6, 0, none⟩ u).setCell ⟨b6, 1, none⟩ v).cell? ⟨b4, 0, none⟩ = some (.int .i64 most) ∧ ((W.setCell ⟨b6, 0, none⟩ u).setCell ⟨b6, 1, none⟩ v).cell? ⟨b4, 1, none⟩ = some (.slice q kn cap) ∧ ((W.setCell ⟨b6, 0, none⟩ u).setCell ⟨b6, 1, none⟩ v).cell? ⟨b5, 12, none⟩ = some (.string (bs host)) ∧ ((W.setCell ⟨b6, 0, none⟩ u).setCell ⟨b6, 1, none⟩ v).cell? ⟨b5, 13, none⟩ = some (.string (bs path)) ∧ ((W.setCell ⟨b6, 0, none⟩ u).setCell ⟨b6, 1, none⟩ v).cell? ⟨b5, 14, none⟩ = some (.bool sec) ∧ ((W.setCell ⟨b6, 0, none⟩ u).setCell ⟨b6, 1, none⟩ v).cell? ⟨b5, 15, none⟩ = some (.int .i64 now) ∧ ((W.setCell ⟨b6, 0, none⟩ u).setCell ⟨b6, 1, none⟩ v).cell? ⟨b8, 0, none⟩ = some (.string (bs host)) ∧ ((W.setCell ⟨b6, 0, none⟩ u).setCell ⟨b6, 1, none⟩ v).cell? ⟨b8, 1, none⟩ = some (.string (bs path)) ∧ ((W.setCell ⟨b6, 0, none⟩ u).setCell ⟨b6, 1, none⟩ v).cell? ⟨b8, 2, none⟩ = some (.bool sec) ∧ ((W.setCell ⟨b6, 0, none⟩ u).setCell ⟨b6, 1, none⟩ v).cell? ⟨b8, 3, none⟩ = some (.int .i64 now)) := fun W hW u v =>
    have n4 := NE.out.2.1; have n5 := NE.out.2.2.2.1; have n8 := NE.out.2.2.2.2.2
    ⟨(((X4.out.next hW).other (fun e => n4 e.symm) 0 u).other (fun e => n4 e.symm) 1 v).at 0 _ rfl, (((X4.out.next hW).other (fun e => n4 e.symm) 0 u).other (fun e => n4 e.symm) 1 v).at 1 _ rfl, (((X.out.k5.next hW).other (fun e => n5 e.symm) 0 u).other (fun e => n5 e.symm) 1 v).at 12 _ rfl, (((X.out.k5.next hW).other (fun e => n5 e.symm) 0 u).other (fun e => n5 e.symm) 1 v).at 13 _ rfl, (((X.out.k5.next hW).other (fun e => n5 e.symm) 0 u).other (fun e => n5 e.symm) 1 v).at 14 _ rfl, (((X.out.k5.next hW).other (fun e => n5 e.symm) 0 u).other (fun e => n5 e.symm) 1 v).at 15 _ rfl, (((X.out.k8.next hW).other n8 0 u).other n8 1 v).at 0 _ rfl, (((X.out.k8.next hW).other n8 0 u).other n8 1 v).at 1 _ rfl, (((X.out.k8.next hW).other n8 0 u).other n8 1 v).at 2 _ rfl, (((X.out.k8.next hW).other n8 0 u).other n8 1 v).at 3 _ rfl⟩
  have BD := Lib.hid (Below.refl w1.heap.size w1).drew
  have X0 := Lib.hid (X.out.k6.next BD.out)
  have z0 := X0.out.at 0 _ rfl
  have z1 := X0.out.at 1 _ rfl
  have y0 := X0.out.free 0
  have y1 := X0.out.free 1
  conv => arg 2; whnf
  go_region_held3 (fun W => W.cell? ⟨b4, 0, none⟩ = some (.int .i64 most) ∧ W.cell? ⟨b4, 1, none⟩ = some (.slice q kn cap) ∧ W.cell? ⟨b5, 12, none⟩ = some (.string (bs host)) ∧ W.cell? ⟨b5, 13, none⟩ = some (.string (bs path)) ∧ W.cell? ⟨b5, 14, none⟩ = some (.bool sec) ∧ W.cell? ⟨b5, 15, none⟩ = some (.int .i64 now) ∧ W.cell? ⟨b8, 0, none⟩ = some (.string (bs host)) ∧ W.cell? ⟨b8, 1, none⟩ = some (.string (bs path)) ∧ W.cell? ⟨b8, 2, none⟩ = some (.bool sec) ∧ W.cell? ⟨b8, 3, none⟩ = some (.int .i64 now))
    (first | with_reducible exact SK.out _ BD.out | with_reducible exact SP.out _ BD.out _ _)
    (first
    | (go_at_call 27; refine (PG.out _ BD.out).mono ?_; rintro e w2 ⟨⟨v3, rfl, h3⟩, b2⟩; obtain ⟨p3, c3, e3⟩ := row_slice h3; subst e3; have K3 := Lib.hid (row_cks h3); have BD := Lib.hid (BD.out.trans (b2.mono BD.out.size)))
    | (go_at_call 29; refine (RG.out _ BD.out).mono ?_; rintro e w3 ⟨⟨v1, rfl, h1⟩, b3⟩; obtain ⟨p1, c1, e1⟩ := row_slice h1; subst e1; have K1 := Lib.hid (row_cks h1); have K4 := Lib.hid (K3.out.next b3); have BD := Lib.hid (BD.out.trans (b3.mono BD.out.size)))
    | (go_at_call 15; refine (same_self _ p3 p1 c3 c1 G K4.out K1.out (by have := HGL.out; omega)).mono ?_; rintro e w4 ⟨rfl, b4'⟩; have BD := Lib.hid (BD.out.trans (b4'.mono BD.out.size)); have X0 := Lib.hid (X.out.k6.next BD.out); have z0 := X0.out.at 0 _ rfl; have z1 := X0.out.at 1 _ rfl; have y0 := X0.out.free 0; have y1 := X0.out.free 1))
  have F := Sx.out (X.out.next BD.out)
  rw [HKN.out] at F
  clear SK SP PG RG z0 z1 y0 y1
  go_wp2_with fail
  conv => arg 2; whnf
  go_wp2_with fail
  exact HRT.out _ _ _ _ _ _ _ _ _ _ _ _ _ _ _ _ _ _ _ _ _ _ _ _ _ _ _ _ _ _ _ _ _ _ _ _ _ _ _ _ _ _ _ _ _ _ _ _ _ _ _ _ _ _ _ _ _ _ _ _ _ _ _ _ _ _ _ _ _ _ _ _ _ _ _ _ _ _ _ _ _ _ _ _ _ _ _ _ _ _ _ _ _ _ q cap l n _ F.1 (F.2.at 0 _ rfl) (by rw [HKN.out]; exact F.2.at 1 _ rfl)
end Go.Proofs.YtkenianfpfamcaaGreatDoor
