/- Specs. No condition beyond the theorems' own. -/
import Derived.Test.YthpciaidbgjoeaaGreatU0
set_option linter.unusedVariables false
set_option linter.unusedSimpArgs false
noncomputable section
namespace Go.Proofs.YthpciaidbgjoeaaGreat
open Go.DI
def aNH (E : aX) (kind : Nat) (xs : List DV) (a : DV) (h : H) : Option (DV × H) := h.pushK (.blk ⟨xs.length, 1, false, true, Tr.ofL xs⟩) λ h' => aB E 29 [a, .int .i64 (.ofNat 15), .int .i64 (.ofNat kind), .slc h.size 0 xs.length xs.length false] h'
def isT (r : Option (DV × H)) (p : DV -> H -> Bool) : Bool := Option.rec (motive := λ _ => Bool) false (λ x => p x.1 x.2) r
def isO (r : Option DV) (p : DV -> Bool) : Bool := Option.rec (motive := λ _ => Bool) false p r
def isP (v : DV) (p : Nat -> Bool) : Bool := match v with
 | .ptr b 0 => p b
 | _ => false
def aAT (v : DV) (e : Nat) : Bool := match v with
 | .tup [.int .i64 (.ofNat n), _] => Nat.beq n e
 | _ => false
def aCK (v : DV) (h : H) (w : Nat) : Bool := match v with
 | .tup [.int .i64 (.ofNat 0), .slc b 0 2 2 _] => isO (rdCell h.get b 0) λ x => iB x (.int .i64 (.ofNat w))
 | _ => false
def stB (h : H) (a m : Nat) : Bool := (isO (rdCell h.get a 0) λ x => iB x (.ptr 2 0)) && isO (rdCell h.get a 1) λ x => iB x (.ptr m 0)
theorem aCW {r : Option (DV × H)} {p : DV -> H -> Bool} (h : isT r p = true) : ∃ v h', r = some (v, h') /\ p v h' = true := by
 cases r with
 | none => cases h
 | some x => exact ⟨x.1, x.2, rfl, h⟩
theorem aCX {r : Option DV} {p : DV -> Bool} (h : isO r p = true) : ∃ v, r = some v /\ p v = true := by
 cases r with
 | none => cases h
 | some x => exact ⟨x, rfl, h⟩
theorem aOd {v : DV} {p : Nat -> Bool} (h : isP v p = true) : ∃ b, v = .ptr b 0 /\ p b = true := by
 unfold isP at h; split at h
 · exact ⟨_, rfl, h⟩
 · cases h
theorem qN {v : DV} {e : Nat} (h : aAT v e = true) : ∃ l, v = .tup [.int .i64 (.ofNat e), l] := by
 unfold aAT at h; split at h
 · rw [Nat.eq_of_beq_eq_true h]; exact ⟨_, rfl⟩
 · cases h
theorem aGG {v : DV} {h : H} {w : Nat} (e : aCK v h w = true) : ∃ b op, v = .tup [.int .i64 (.ofNat 0), .slc b 0 2 2 op] /\ rdCell h.get b 0 = some (.int .i64 (.ofNat w)) := by
 unfold aCK at e; split at e
 · obtain ⟨x, e1, e2⟩ := aCX e; rw [iT _ _ e2] at e1; exact ⟨_, _, rfl, e1⟩
 · cases e
structure Stg (h : H) (a m : Nat) : Prop where
 c0 : rdCell h.get a 0 = some (.ptr 2 0)
 c1 : rdCell h.get a 1 = some (.ptr m 0)
theorem aGF {h : H} {a m : Nat} (e : stB h a m = true) : Stg h a m := by
 unfold stB at e; rw [Bool.and_eq_true] at e; obtain ⟨x, e1, e2⟩ := aCX e.1; obtain ⟨y, e3, e4⟩ := aCX e.2; rw [iT _ _ e2] at e1; rw [iT _ _ e4] at e3; exact ⟨e1, e3⟩
def aHr (E : aX) (kind e : Nat) (pre : List DV) (a m : Nat) (h : H) (k : DV -> H -> Bool) : Bool := stB h a m && isT (aB E 69 [.ptr m 0] h) λ x h1 => iB x (.int .i64 (.ofNat e)) && isT (aNH E kind (pre ++ [.int .i64 (.ofNat e)]) (.ptr a 0) h1) k
structure Cmd (E : aX) (kind e : Nat) (pre : List DV) (a m : Nat) (h : H) (v : DV) (h2 : H) : Prop where
 st : Stg h a m
 run : ∃ h1, aB E 69 [.ptr m 0] h = some (.int .i64 (.ofNat e), h1) /\ aNH E kind (pre ++ [.int .i64 (.ofNat e)]) (.ptr a 0) h1 = some (v, h2)
theorem vC {E : aX} {kind e : Nat} {pre : List DV} {a m : Nat} {h : H} {k : DV -> H -> Bool} (c : aHr E kind e pre a m h k = true) : ∃ v h2, Cmd E kind e pre a m h v h2 /\ k v h2 = true := by
 unfold aHr at c; rw [Bool.and_eq_true] at c; obtain ⟨x, h1, e1, c2⟩ := aCW c.2; rw [Bool.and_eq_true] at c2; rw [iT _ _ c2.1] at e1; obtain ⟨v, h2, e2, c3⟩ := aCW c2.2; exact ⟨v, h2, ⟨aGF c.1, h1, e1, e2⟩, c3⟩
def bAF (E : aX) (w s : Nat) (k : Nat -> Nat -> H -> Bool) : Bool := isT (aEN E w s) λ a h => isP a λ a => isO (rdCell h.get a 1) λ m => isP m λ m => k a m h
theorem aKf {E : aX} {w s : Nat} {k : Nat -> Nat -> H -> Bool} (c : bAF E w s k = true) : ∃ a m h, aEN E w s = some (.ptr a 0, h) /\ rdCell h.get a 1 = some (.ptr m 0) /\ k a m h = true := by
 obtain ⟨v, h, e1, c1⟩ := aCW c; obtain ⟨a, rfl, c2⟩ := aOd c1; obtain ⟨u, e2, c3⟩ := aCX c2; obtain ⟨m, rfl, c4⟩ := aOd c3; exact ⟨a, m, h, e1, e2, c4⟩
def chA (w s : Nat) : Bool := bAF (Ef w) w s λ a m h => aHr (Ef w) 5 1 [.mp 3] a m h λ v _ => aAT v 7
def aUV (E : aX) (a m : Nat) (h : H) (k : H -> Bool) : Bool := stB h a m && isT (aB E 42 [.ptr m 0, .int .i64 (.ofNat 2)] h) λ v h' => iB v .nils && k h'
theorem aJr {E : aX} {a m : Nat} {h : H} {k : H -> Bool} (c : aUV E a m h k = true) : Stg h a m /\ ∃ h', aB E 42 [.ptr m 0, .int .i64 (.ofNat 2)] h = some (.nils, h') /\ k h' = true := by
 unfold aUV at c; rw [Bool.and_eq_true] at c; obtain ⟨v, h', e1, c1⟩ := aCW c.2; rw [Bool.and_eq_true] at c1; rw [iT _ _ c1.1] at e1; exact ⟨aGF c.1, h', e1, c1.2⟩
def chB (c : Bool) (w s i : Nat) : Bool := bAF (Ef w) w s λ a m h => aHr (Ef w) 5 1 [.int .i64 (.ofNat i)] a m h λ v h => aAT v 0 && stB h a m && aHr (Ef w) 5 2 [bif c then .mp 0 else .mp 3] a m h λ v h => aAT v (bif c then 9 else 7) &&
 aHr (Ef w) 6 2 [] a m h λ v h => bif Nat.beq s 0 then aAT v 7 else aCK v h w && aUV (Ef w) a m h λ h => aUV (Ef w) a m h λ h => aHr (Ef w) 7 3 [] a m h λ v _ => aAT v 0
structure tT (V : Vl) (hs : H) (a m : Nat) (A : Re) (g : H) (pr : Nat) (sp : Int) (pb : Nat) (L : List DV) (pa pm sv lb : Nat) (S : List fL) (X : List pC) : Prop where
 ar : ArV V hs a m A g pa pm sv lb S X
 o : aD g pr [.ptr pa 0, .int .i64 sp]
 n1 : ¬ rng Ob A pr
 n2 : ¬ svF S sv lb pr
 b : aD g pb L
 m1 : ¬ rng Ob A pb
 m2 : ¬ svF S sv lb pb
 m3 : pb ≠ pr
theorem sL2 {x y z : DV} {h : H} {kk : DV -> H -> Option (DV × H)} {Q : DV -> H -> Prop} (hx : x.one = true) (hy : y.one = true) (r : W (kk (.slc h.size 0 2 2 false) (h.push (.blk ⟨2, 1, false, true, Tr.ofL [x, y]⟩))) Q) : W (dB 2 1 [z] [(0, 1, x), (1, 1, y)] h kk) Q := by
 have hf : eM (gI [z] 2) [(0, 1, x), (1, 1, y)] = some [x, y] := by
   have hc : x.cells = [x] := by cases x <;> first | rfl | cases hx
   have hd : y.cells = [y] := by cases y <;> first | rfl | cases hy
   simp [gI, eM, hc, hd, nV]
   rfl
 simp only [dB, hf, Option.bind_some, H.pushK_eq]; exact r
section
variable {V : Vl} {Es' : aX} {hs h' : H} {a m : Nat} {A : Re} {g g' : H} {pr : Nat} {sp : Int} {pb : Nat} {L : List DV} {pa pm sv lb : Nat} {S : List fL} {X X' : List pC}
theorem tT.part (r : tT V hs a m A g pr sp pb L pa pm sv lb S X) {A' : Re} (s : wO Ob A g A' g') (r' : HR V Ob A' h' g') : tT V h' a m A' g' pr sp pb L pa pm sv lb S X :=
 ⟨r.ar.part s r', r.o.off s.off r.n1, λ h => by
   rcases uG s h with h | h
   · exact r.n1 h
   · have := r.o.1; omega, r.n2, r.b.off s.off r.m1, λ h => by
   rcases uG s h with h | h
   · exact r.m1 h
   · have := r.b.1; omega, r.m2, r.m3⟩
theorem tT.put (r : tT V hs a m A g pr sp pb L pa pm sv lb S X) (k : sG (svF S sv lb) g g') (q : SvS g' sv lb S X') : tT V hs a m A g' pr sp pb L pa pm sv lb S X' :=
 ⟨r.ar.put k q, r.o.off k r.n2, r.n1, r.n2, r.b.off k r.m2, r.m1, r.m2, r.m3⟩
theorem aJl {E : aX} (hE : hU V Es' E) (r : tT V hs a m A g pr sp pb L pa pm sv lb S X) {f : Nat} {xs xs' : List DV} {v : DV} (hx : fB V A xs = some xs') (hf : aB Es' f xs hs = some (v, h')) :
   W (aB E f xs' g) λ w g' => ∃ A', rl V A' v = some w /\ tT V h' a m A' g' pr sp pb L pa pm sv lb S X := by
 obtain ⟨A', w, g', f1, f2, f3, f4⟩ := aAN hE r.ar.hr hx hf; exact ⟨w, g', f1, A', f4, r.part f2 f3⟩
theorem qB {E : aX} (hE : hU V Es' E) (r : tT V hs a m A g pr sp pb L pa pm sv lb S X) {kind n : Nat} {xs xs' : List DV} {v : DV} (hf : aNH Es' kind xs (.ptr a 0) hs = some (v, h')) (hn : xs.length = n) (hx : ∀ A, fB V A xs = some xs') :
   W (aB E 29 [.ptr pa 0, .int .i64 (.ofNat 15), .int .i64 (.ofNat kind), .slc g.size 0 n n false] (g.push (.blk ⟨n, 1, false, true, Tr.ofL xs'⟩))) λ w g' => ∃ A', rl V A' v = some w /\ tT V h' a m A' g' pr sp pb L pa pm sv lb S X := by
 unfold aNH at hf; rw [H.pushK_eq, hn] at hf; obtain ⟨r1, s1, e1⟩ := r.ar.hr.push (o := .blk ⟨n, 1, false, true, Tr.ofL xs⟩) (q := .blk ⟨n, 1, false, true, Tr.ofL xs'⟩) ⟨rfl, rfl, rfl, rfl, lK (hx _)⟩; obtain ⟨A', w, g', f1, f2, f3, f4⟩ := aAN hE r1 (args' := [.ptr pa 0, .int .i64 (.ofNat 15), .int .i64 (.ofNat kind), .slc g.size 0 n n false])
   (aV.2 ⟨_, _, iE (s1.le _ _ r.ar.a), aV.2 ⟨_, _, rfl, aV.2 ⟨_, _, rfl, aV.2 ⟨_, _, eW e1, rfl, rfl⟩, rfl⟩, rfl⟩, rfl⟩) hf
 exact ⟨w, g', f1, A', f4, r.part (s1.trans f2) f3⟩
theorem aJp {E : aX} (r : tT V hs a m A g pr sp pb L pa pm sv lb S X) (st : Stg hs a m) : W (S41 E [.ptr pa 0] g) λ v g' => v = .ptr pm 0 /\ g' = g := by
 have l1 := r.ar.c1 st.c1; show W (aLz E (.ptr pa 0) g) _; unfold aLz
 repeat' (first | with_reducible refine sT ?_ | with_reducible refine sF ?_ | with_reducible refine g1 ?_ | with_reducible refine g2 ?_ | with_reducible refine g3 ?_ | with_reducible refine g4 ?_ | ((with_reducible apply sV); first | exact l1 | exact aD.read (by assumption) (by rfl) | exact aD.readN (by assumption) (Nat.le_of_ble_eq_true rfl) | exact fZ (by omega) | exact gE (by omega) | exact gtT (by omega) | exact gtF (by omega) | exact leT (by omega) | exact gF (by omega) | exact geT (by omega) | exact geF (by omega) | exact gG (by omega) | exact gH (by omega) | exact fS (by omega) | exact fY (by omega) | exact aJ (by omega) | exact cS (by omega) | exact aH (by omega) (by omega) | exact aI (by omega) _ | exact aO _ _ _ _ | exact aN _ _ _ _ | exact aM _ _ _ | exact rfl) | exact W.ret ⟨rfl, rfl⟩ | with_reducible refine W.ret ?_)
theorem aNt {E : aX} (r : tT V hs a m A g pr sp pb L pa pm sv lb S X) (st : Stg hs a m) : W (S10 E [.ptr pa 0] g) λ v g' => v = .ptr sv 0 /\ g' = g := by
 have l1 := r.ar.c0 st.c0; show W (aLH E (.ptr pa 0) g) _; unfold aLH
 repeat' (first | with_reducible refine sT ?_ | with_reducible refine sF ?_ | with_reducible refine g1 ?_ | with_reducible refine g2 ?_ | with_reducible refine g3 ?_ | with_reducible refine g4 ?_ | ((with_reducible apply sV); first | exact l1 | exact aD.read (by assumption) (by rfl) | exact aD.readN (by assumption) (Nat.le_of_ble_eq_true rfl) | exact fZ (by omega) | exact gE (by omega) | exact gtT (by omega) | exact gtF (by omega) | exact leT (by omega) | exact gF (by omega) | exact geT (by omega) | exact geF (by omega) | exact gG (by omega) | exact gH (by omega) | exact fS (by omega) | exact fY (by omega) | exact aJ (by omega) | exact cS (by omega) | exact aH (by omega) (by omega) | exact aI (by omega) _ | exact aO _ _ _ _ | exact aN _ _ _ _ | exact aM _ _ _ | exact rfl) | exact W.ret ⟨rfl, rfl⟩ | with_reducible refine W.ret ?_)
theorem aMF {E G : aX} (hE : hU V Es' E) (hM : ∀ a b, aB E 41 a b = S41 G a b) (r : tT V hs a m A g pr sp pb L pa pm sv lb S X) (st : Stg hs a m) {e : Nat} (hf : aB Es' 69 [.ptr m 0] hs = some (.int .i64 (.ofNat e), h')) :
   W (S40 E [.ptr pr 0] g) λ v g' => v = .int .i64 (.ofNat e) /\ ∃ A', tT V h' a m A' g' pr sp pb L pa pm sv lb S X := by
 obtain ⟨_, gx, e1, rfl, rfl⟩ := aJp (E := G) r st; obtain ⟨w, gy, e2, A', y, r2⟩ := aJl hE r (xs := [.ptr m 0]) (xs' := [.ptr pm 0]) (aV.2 ⟨_, _, iE r.ar.m, rfl, rfl⟩) hf; have := dN y; subst this; have o := r.o; show W (aLA E (.ptr pr 0) gx) _; unfold aLA
 repeat' (first | with_reducible refine sT ?_ | with_reducible refine sF ?_ | with_reducible refine g1 ?_ | with_reducible refine g2 ?_ | with_reducible refine g3 ?_ | with_reducible refine g4 ?_ | rw [hM] | refine sW e1 ?_ | refine sW e2 ?_ | ((with_reducible apply sV); first | exact aD.read (by assumption) (by rfl) | exact aD.readN (by assumption) (Nat.le_of_ble_eq_true rfl) | exact fZ (by omega) | exact gE (by omega) | exact gtT (by omega) | exact gtF (by omega) | exact leT (by omega) | exact gF (by omega) | exact geT (by omega) | exact geF (by omega) | exact gG (by omega) | exact gH (by omega) | exact fS (by omega) | exact fY (by omega) | exact aJ (by omega) | exact cS (by omega) | exact aH (by omega) (by omega) | exact aI (by omega) _ | exact aO _ _ _ _ | exact aN _ _ _ _ | exact aM _ _ _ | exact rfl) | exact W.ret ⟨rfl, rfl⟩ | with_reducible refine W.ret ?_)
 exact ⟨rfl, A', r2⟩
theorem aAG {E F G : aX} (hF : hU V Es' F) (hep : ∀ a b, aB E 40 a b = S40 F a b) (hM : ∀ a b, aB F 41 a b = S41 G a b) (r : tT V hs a m A g pr sp pb L pa pm sv lb S X) {kind e : Nat} {pre : List DV} {v : DV} (c : Cmd Es' kind e pre a m hs v h') :
   ∃ h1 A1 g1', aB E 40 [.ptr pr 0] g = some (.int .i64 (.ofNat e), g1') /\ aNH Es' kind (pre ++ [.int .i64 (.ofNat e)]) (.ptr a 0) h1 = some (v, h') /\ tT V h1 a m A1 g1' pr sp pb L pa pm sv lb S X := by
 obtain ⟨h1, f1, f2⟩ := c.run; obtain ⟨_, gy, e1, rfl, A1, r1⟩ := aMF hF hM r c.st f1; exact ⟨h1, A1, gy, by rw [hep]; exact e1, f2, r1⟩
theorem aJw {E F G : aX} (hE : hU V Es' E) (hF : hU V Es' F) (hep : ∀ a b, aB E 40 a b = S40 F a b) (hM : ∀ a b, aB F 41 a b = S41 G a b) (r : tT V hs a m A g pr sp pb L pa pm sv lb S X) {e n : Nat} {x : DV} {k : Int} {l : DV} (hx : ∀ A, rl V A x = some (.int .i64 k)) (hn : n ≠ 0) (c : Cmd Es' 5 e [x] a m hs (.tup [.int .i64 (.ofNat n), l]) h') :
   W (S19 E [.ptr pr 0, .int .i64 k] g) λ v g' => v = .int .i64 (.ofNat n) /\ ∃ A', tT V h' a m A' g' pr sp pb L pa pm sv lb S X := by
 obtain ⟨h1, A1, gy, e1, f2, r1⟩ := aAG hF hep hM r c; obtain ⟨w, gz, e2, A2, y, r2⟩ := qB hE r1 (n := 2) (xs' := [.int .i64 k, .int .i64 (.ofNat e)]) f2 rfl λ A => aV.2 ⟨_, _, hx A, rfl, rfl⟩
 obtain ⟨tv, y1, rfl⟩ := sQ y; obtain ⟨b0, _, y2, y3, rfl⟩ := aV.1 y1; obtain ⟨b1, _, y4, y5, rfl⟩ := aV.1 y3; cases y5; have := dN y2; subst this; have o := r.o; have o1 := r1.o; show W (aCB E (.ptr pr 0) (.int .i64 k) g) _; unfold aCB aGh
 repeat' (first | with_reducible refine sT ?_ | with_reducible refine sF ?_ | with_reducible refine g1 ?_ | with_reducible refine g2 ?_ | with_reducible refine g3 ?_ | with_reducible refine g4 ?_ | refine sW e1 ?_ | ((with_reducible apply sV); first | exact aD.read (by assumption) (by rfl) | exact aD.readN (by assumption) (Nat.le_of_ble_eq_true rfl) | exact fZ (by omega) | exact gE (by omega) | exact gtT (by omega) | exact gtF (by omega) | exact leT (by omega) | exact gF (by omega) | exact geT (by omega) | exact geF (by omega) | exact gG (by omega) | exact gH (by omega) | exact fS (by omega) | exact fY (by omega) | exact aJ (by omega) | exact cS (by omega) | exact aH (by omega) (by omega) | exact aI (by omega) _ | exact aO _ _ _ _ | exact aN _ _ _ _ | exact aM _ _ _ | exact rfl) | exact W.ret ⟨rfl, rfl⟩ | with_reducible refine W.ret ?_)
 rw [rck (rcI (o1.read (j := 0) rfl) (by simp [iB]))]
 refine sL2 rfl rfl ?_; refine sW e2 ?_
 repeat' (first | with_reducible refine sT ?_ | with_reducible refine sF ?_ | with_reducible refine g1 ?_ | with_reducible refine g2 ?_ | with_reducible refine g3 ?_ | with_reducible refine g4 ?_ | ((with_reducible apply sV); first | exact aD.read (by assumption) (by rfl) | exact aD.readN (by assumption) (Nat.le_of_ble_eq_true rfl) | exact fZ (by omega) | exact gE (by omega) | exact gtT (by omega) | exact gtF (by omega) | exact leT (by omega) | exact gF (by omega) | exact geT (by omega) | exact geF (by omega) | exact gG (by omega) | exact gH (by omega) | exact fS (by omega) | exact fY (by omega) | exact aJ (by omega) | exact cS (by omega) | exact aH (by omega) (by omega) | exact aI (by omega) _ | exact aO _ _ _ _ | exact aN _ _ _ _ | exact aM _ _ _ | exact rfl) | exact W.ret ⟨rfl, rfl⟩ | with_reducible refine W.ret ?_)
 exact ⟨rfl, A2, r2⟩
theorem aOs {E F G K : aX} (hE : hU V Es' E) (hF : hU V Es' F) (hep : ∀ a b, aB E 40 a b = S40 F a b) (hM : ∀ a b, aB F 41 a b = S41 G a b) (hsv : ∀ a b, aB E 10 a b = S10 F a b) (hls : ∀ a b, aB E 14 a b = S14 K a b) (hat : K 33 = some (S33 K)) (r : tT V hs a m A g pr sp pb L pa pm sv lb S X) {e i : Nat} {l : DV} {x : pC} (hi : X[i]? = some x) (st : Stg h' a m) (c : Cmd Es' 5 e [.int .i64 (.ofNat i)] a m hs (.tup [.int .i64 (.ofNat 0), l]) h') :
   W (S19 E [.ptr pr 0, .int .i64 (.ofNat i)] g) λ v g' => v = .int .i64 (.ofNat 0) /\ ∃ A', tT V h' a m A' g' pr sp pb L pa pm sv lb S (X.set i { x with ls := true }) := by
 obtain ⟨h1, A1, gy, e1, f2, r1⟩ := aAG hF hep hM r c; obtain ⟨w, gz, e2, A2, y, r2⟩ := qB hE r1 (n := 2) (xs' := [.int .i64 (.ofNat i), .int .i64 (.ofNat e)]) f2 rfl λ A => rfl
 obtain ⟨tv, y1, rfl⟩ := sQ y; obtain ⟨b0, _, y2, y3, rfl⟩ := aV.1 y1; obtain ⟨b1, _, y4, y5, rfl⟩ := aV.1 y3; cases y5; have := dN y2; subst this; obtain ⟨B, hB⟩ : ∃ B, S[i]? = some B := ⟨_, List.getElem?_eq_getElem (by rw [<- r.ar.q.len]; exact (List.getElem?_eq_some_iff.1 hi).1)⟩
 obtain ⟨_, gv, e3, rfl, rfl⟩ := aNt (E := F) r2 st; obtain ⟨_, gw, e4, rfl, k4, q4⟩ := aNo r2.ar.q hat hB hi; have o := r.o; have o1 := r1.o; have o2 := r2.o; show W (aCB E (.ptr pr 0) (.int .i64 (.ofNat i)) g) _; unfold aCB aGh
 repeat' (first | with_reducible refine sT ?_ | with_reducible refine sF ?_ | with_reducible refine g1 ?_ | with_reducible refine g2 ?_ | with_reducible refine g3 ?_ | with_reducible refine g4 ?_ | refine sW e1 ?_ | ((with_reducible apply sV); first | exact aD.read (by assumption) (by rfl) | exact aD.readN (by assumption) (Nat.le_of_ble_eq_true rfl) | exact fZ (by omega) | exact gE (by omega) | exact gtT (by omega) | exact gtF (by omega) | exact leT (by omega) | exact gF (by omega) | exact geT (by omega) | exact geF (by omega) | exact gG (by omega) | exact gH (by omega) | exact fS (by omega) | exact fY (by omega) | exact aJ (by omega) | exact cS (by omega) | exact aH (by omega) (by omega) | exact aI (by omega) _ | exact aO _ _ _ _ | exact aN _ _ _ _ | exact aM _ _ _ | exact rfl) | exact W.ret ⟨rfl, rfl⟩ | with_reducible refine W.ret ?_)
 rw [rck (rcI (o1.read (j := 0) rfl) (by simp [iB]))]
 refine sL2 rfl rfl ?_; refine sW e2 ?_
 repeat' (first | with_reducible refine sT ?_ | with_reducible refine sF ?_ | with_reducible refine g1 ?_ | with_reducible refine g2 ?_ | with_reducible refine g3 ?_ | with_reducible refine g4 ?_ | rw [hsv] | refine sW e3 ?_ | rw [hls] | refine sW e4 ?_ | ((with_reducible apply sV); first | exact aD.read (by assumption) (by rfl) | exact aD.readN (by assumption) (Nat.le_of_ble_eq_true rfl) | exact fZ (by omega) | exact gE (by omega) | exact gtT (by omega) | exact gtF (by omega) | exact leT (by omega) | exact gF (by omega) | exact geT (by omega) | exact geF (by omega) | exact gG (by omega) | exact gH (by omega) | exact fS (by omega) | exact fY (by omega) | exact aJ (by omega) | exact cS (by omega) | exact aH (by omega) (by omega) | exact aI (by omega) _ | exact aO _ _ _ _ | exact aN _ _ _ _ | exact aM _ _ _ | exact rfl) | exact W.ret ⟨rfl, rfl⟩ | with_reducible refine W.ret ?_)
 exact ⟨rfl, A2, r2.put k4 q4⟩
theorem aNr {E F G : aX} (hE : hU V Es' E) (hF : hU V Es' F) (hep : ∀ a b, aB E 40 a b = S40 F a b) (hM : ∀ a b, aB F 41 a b = S41 G a b) (r : tT V hs a m A g pr sp pb L pa pm sv lb S X) {e n : Nat} {l : DV} (hn : n ≠ 0) (c : Cmd Es' 6 e [] a m hs (.tup [.int .i64 (.ofNat n), l]) h') :
   W (S20 E [.ptr pr 0] g) λ v g' => v = .tup [.int .i64 (.ofNat 0), .int .i64 (.ofNat n)] /\ ∃ A', tT V h' a m A' g' pr sp pb L pa pm sv lb S X := by
 obtain ⟨h1, A1, gy, e1, f2, r1⟩ := aAG hF hep hM r c; obtain ⟨w, gz, e2, A2, y, r2⟩ := qB hE r1 (n := 1) (xs' := [.int .i64 (.ofNat e)]) f2 rfl λ A => rfl
 obtain ⟨tv, y1, rfl⟩ := sQ y; obtain ⟨b0, _, y2, y3, rfl⟩ := aV.1 y1; obtain ⟨b1, _, y4, y5, rfl⟩ := aV.1 y3; cases y5; have := dN y2; subst this; have o := r.o; have o1 := r1.o; show W (aCA E (.ptr pr 0) g) _; unfold aCA
 repeat' (first | with_reducible refine sT ?_ | with_reducible refine sF ?_ | with_reducible refine g1 ?_ | with_reducible refine g2 ?_ | with_reducible refine g3 ?_ | with_reducible refine g4 ?_ | refine sW e1 ?_ | ((with_reducible apply sV); first | exact aD.read (by assumption) (by rfl) | exact aD.readN (by assumption) (Nat.le_of_ble_eq_true rfl) | exact fZ (by omega) | exact gE (by omega) | exact gtT (by omega) | exact gtF (by omega) | exact leT (by omega) | exact gF (by omega) | exact geT (by omega) | exact geF (by omega) | exact gG (by omega) | exact gH (by omega) | exact fS (by omega) | exact fY (by omega) | exact aJ (by omega) | exact cS (by omega) | exact aH (by omega) (by omega) | exact aI (by omega) _ | exact aO _ _ _ _ | exact aN _ _ _ _ | exact aM _ _ _ | exact rfl) | exact W.ret ⟨rfl, rfl⟩ | with_reducible refine W.ret ?_)
 rw [rck (rcI (o1.read (j := 0) rfl) (by simp [iB]))]
 refine sL1 rfl ?_; refine sW e2 ?_
 repeat' (first | with_reducible refine sT ?_ | with_reducible refine sF ?_ | with_reducible refine g1 ?_ | with_reducible refine g2 ?_ | with_reducible refine g3 ?_ | with_reducible refine g4 ?_ | ((with_reducible apply sV); first | exact aD.read (by assumption) (by rfl) | exact aD.readN (by assumption) (Nat.le_of_ble_eq_true rfl) | exact fZ (by omega) | exact gE (by omega) | exact gtT (by omega) | exact gtF (by omega) | exact leT (by omega) | exact gF (by omega) | exact geT (by omega) | exact geF (by omega) | exact gG (by omega) | exact gH (by omega) | exact fS (by omega) | exact fY (by omega) | exact aJ (by omega) | exact cS (by omega) | exact aH (by omega) (by omega) | exact aI (by omega) _ | exact aO _ _ _ _ | exact aN _ _ _ _ | exact aM _ _ _ | exact rfl) | exact W.ret ⟨rfl, rfl⟩ | with_reducible refine W.ret ?_)
 exact ⟨rfl, A2, r2⟩
theorem aNq {E F G : aX} (hE : hU V Es' E) (hF : hU V Es' F) (hep : ∀ a b, aB E 40 a b = S40 F a b) (hM : ∀ a b, aB F 41 a b = S41 G a b) (r : tT V hs a m A g pr sp pb L pa pm sv lb S X) {e bl w : Nat} {op : Bool} (hw : rdCell h'.get bl 0 = some (.int .i64 (.ofNat w))) (c : Cmd Es' 6 e [] a m hs (.tup [.int .i64 (.ofNat 0), .slc bl 0 2 2 op]) h') :
   W (S20 E [.ptr pr 0] g) λ v g' => v = .tup [.int .i64 (.ofNat w), .int .i64 (.ofNat 0)] /\ ∃ A', tT V h' a m A' g' pr (.ofNat w) pb L pa pm sv lb S X := by
 obtain ⟨h1, A1, gy, e1, f2, r1⟩ := aAG hF hep hM r c; obtain ⟨u, gz, e2, A2, y, r2⟩ := qB hE r1 (n := 1) (xs' := [.int .i64 (.ofNat e)]) f2 rfl λ A => rfl
 obtain ⟨tv, y1, rfl⟩ := sQ y; obtain ⟨b0, _, y2, y3, rfl⟩ := aV.1 y1; obtain ⟨b1, _, y4, y5, rfl⟩ := aV.1 y3; cases y5; have := dN y2; subst this; obtain ⟨cl, y6, rfl⟩ := fU y4; obtain ⟨u3, l3, y7⟩ := hld r2.ar.hr y6 hw; have := dN y7; subst this; have o := r.o; have o1 := r1.o; have o2 := r2.o; show W (aCA E (.ptr pr 0) g) _; unfold aCA
 repeat' (first | with_reducible refine sT ?_ | with_reducible refine sF ?_ | with_reducible refine g1 ?_ | with_reducible refine g2 ?_ | with_reducible refine g3 ?_ | with_reducible refine g4 ?_ | refine sW e1 ?_ | ((with_reducible apply sV); first | exact aD.read (by assumption) (by rfl) | exact aD.readN (by assumption) (Nat.le_of_ble_eq_true rfl) | exact fZ (by omega) | exact gE (by omega) | exact gtT (by omega) | exact gtF (by omega) | exact leT (by omega) | exact gF (by omega) | exact geT (by omega) | exact geF (by omega) | exact gG (by omega) | exact gH (by omega) | exact fS (by omega) | exact fY (by omega) | exact aJ (by omega) | exact cS (by omega) | exact aH (by omega) (by omega) | exact aI (by omega) _ | exact aO _ _ _ _ | exact aN _ _ _ _ | exact aM _ _ _ | exact rfl) | exact W.ret ⟨rfl, rfl⟩ | with_reducible refine W.ret ?_)
 rw [rck (rcI (o1.read (j := 0) rfl) (by simp [iB]))]
 refine sL1 rfl ?_; refine sW e2 ?_
 repeat' (first | with_reducible refine sT ?_ | with_reducible refine sF ?_ | with_reducible refine g1 ?_ | with_reducible refine g2 ?_ | with_reducible refine g3 ?_ | with_reducible refine g4 ?_ | ((with_reducible apply sV); first | exact aUZ (by decide : 0 < 2) | exact l3 | exact aD.read (by assumption) (by rfl) | exact aD.readN (by assumption) (Nat.le_of_ble_eq_true rfl) | exact fZ (by omega) | exact gE (by omega) | exact gtT (by omega) | exact gtF (by omega) | exact leT (by omega) | exact gF (by omega) | exact geT (by omega) | exact geF (by omega) | exact gG (by omega) | exact gH (by omega) | exact fS (by omega) | exact fY (by omega) | exact aJ (by omega) | exact cS (by omega) | exact aH (by omega) (by omega) | exact aI (by omega) _ | exact aO _ _ _ _ | exact aN _ _ _ _ | exact aM _ _ _ | exact rfl) | exact W.ret ⟨rfl, rfl⟩ | with_reducible refine W.ret ?_)
 refine sS1 (j := 1) o2 (Nat.le_of_ble_eq_true rfl) rfl λ gv o3 k3 => ?_
 repeat' (first | with_reducible refine sT ?_ | with_reducible refine sF ?_ | with_reducible refine g1 ?_ | with_reducible refine g2 ?_ | with_reducible refine g3 ?_ | with_reducible refine g4 ?_ | ((with_reducible apply sV); first | exact aD.read (by assumption) (by rfl) | exact aD.readN (by assumption) (Nat.le_of_ble_eq_true rfl) | exact fZ (by omega) | exact gE (by omega) | exact gtT (by omega) | exact gtF (by omega) | exact leT (by omega) | exact gF (by omega) | exact geT (by omega) | exact geF (by omega) | exact gG (by omega) | exact gH (by omega) | exact fS (by omega) | exact fY (by omega) | exact aJ (by omega) | exact cS (by omega) | exact aH (by omega) (by omega) | exact aI (by omega) _ | exact aO _ _ _ _ | exact aN _ _ _ _ | exact aM _ _ _ | exact rfl) | exact W.ret ⟨rfl, rfl⟩ | with_reducible refine W.ret ?_)
 exact ⟨rfl, A2, r2.ar.other (k3.off (F := λ c => c = pr) rfl) (λ c h => by rw [h]; exact r2.n1) (λ c h => by rw [h]; exact r2.n2), o3, r2.n1, r2.n2, r2.b.off (k3.off (F := λ c => c = pr) rfl) r2.m3, r2.m1, r2.m2, r2.m3⟩
theorem aMq {E : aX} (r : tT V hs a m A g pr (.negSucc 0) pb L pa pm sv lb S X) : W (S21 E [.ptr pr 0] g) λ v g' => v = .nils /\ g' = g := by
 have o := r.o; have e : bV (.int .i64 (.negSucc 0)) (.int .i64 (.negSucc 0)) = some (.bool true) := by rw [jN]; simp
 show W (aCz E (.ptr pr 0) g) _; unfold aCz
 repeat' (first | with_reducible refine sT ?_ | with_reducible refine sF ?_ | with_reducible refine g1 ?_ | with_reducible refine g2 ?_ | with_reducible refine g3 ?_ | with_reducible refine g4 ?_ | ((with_reducible apply sV); first | exact e | exact pickT _ _ | exact pickF _ _ | exact aD.read (by assumption) (by rfl) | exact aD.readN (by assumption) (Nat.le_of_ble_eq_true rfl) | exact fZ (by omega) | exact gE (by omega) | exact gtT (by omega) | exact gtF (by omega) | exact leT (by omega) | exact gF (by omega) | exact geT (by omega) | exact geF (by omega) | exact gG (by omega) | exact gH (by omega) | exact fS (by omega) | exact fY (by omega) | exact aJ (by omega) | exact cS (by omega) | exact aH (by omega) (by omega) | exact aI (by omega) _ | exact aO _ _ _ _ | exact aN _ _ _ _ | exact aM _ _ _ | exact rfl) | exact W.ret ⟨rfl, rfl⟩ | with_reducible refine W.ret ?_)
theorem aBU {E G : aX} (hE : hU V Es' E) (hM : ∀ a b, aB E 41 a b = S41 G a b) {w : Nat} (r : tT V hs a m A g pr (.ofNat w) pb L pa pm sv lb S X) (st : Stg hs a m) (hf : aB Es' 42 [.ptr m 0, .int .i64 (.ofNat 2)] hs = some (.nils, h')) :
   W (S21 E [.ptr pr 0] g) λ v g' => v = .nils /\ ∃ A', tT V h' a m A' g' pr (.ofNat w) pb L pa pm sv lb S X := by
 obtain ⟨_, gx, e1, rfl, rfl⟩ := aJp (E := G) r st; obtain ⟨u, gy, e2, A', y, r2⟩ := aJl hE r (xs := [.ptr m 0, .int .i64 (.ofNat 2)]) (xs' := [.ptr pm 0, .int .i64 (.ofNat 2)]) (aV.2 ⟨_, _, iE r.ar.m, rfl, rfl⟩) hf; have := eY y; subst this; have o := r.o; show W (aCz E (.ptr pr 0) gx) _; unfold aCz
 repeat' (first | with_reducible refine sT ?_ | with_reducible refine sF ?_ | with_reducible refine g1 ?_ | with_reducible refine g2 ?_ | with_reducible refine g3 ?_ | with_reducible refine g4 ?_ | rw [hM] | refine sW e1 ?_ | refine sW e2 ?_ | ((with_reducible apply sV); first | exact aXN | exact pickT _ _ | exact pickF _ _ | exact (show aW .nils = some (.int .i64 (.ofNat 0)) from rfl) | exact aD.read (by assumption) (by rfl) | exact aD.readN (by assumption) (Nat.le_of_ble_eq_true rfl) | exact fZ (by omega) | exact gE (by omega) | exact gtT (by omega) | exact gtF (by omega) | exact leT (by omega) | exact gF (by omega) | exact geT (by omega) | exact geF (by omega) | exact gG (by omega) | exact gH (by omega) | exact fS (by omega) | exact fY (by omega) | exact aJ (by omega) | exact cS (by omega) | exact aH (by omega) (by omega) | exact aI (by omega) _ | exact aO _ _ _ _ | exact aN _ _ _ _ | exact aM _ _ _ | exact rfl) | exact W.ret ⟨rfl, rfl⟩ | with_reducible refine W.ret ?_)
 show W (aTZ E _ _ _ (aCv E _ _ _ (aY - 1)) _ _ gy) _; unfold aTZ aLE
 repeat' (first | with_reducible refine sT ?_ | with_reducible refine sF ?_ | with_reducible refine g1 ?_ | with_reducible refine g2 ?_ | with_reducible refine g3 ?_ | with_reducible refine g4 ?_ | ((with_reducible apply sV); first | exact aD.read (by assumption) (by rfl) | exact aD.readN (by assumption) (Nat.le_of_ble_eq_true rfl) | exact fZ (by omega) | exact gE (by omega) | exact gtT (by omega) | exact gtF (by omega) | exact leT (by omega) | exact gF (by omega) | exact geT (by omega) | exact geF (by omega) | exact gG (by omega) | exact gH (by omega) | exact fS (by omega) | exact fY (by omega) | exact aJ (by omega) | exact cS (by omega) | exact aH (by omega) (by omega) | exact aI (by omega) _ | exact aO _ _ _ _ | exact aN _ _ _ _ | exact aM _ _ _ | exact rfl) | exact W.ret ⟨rfl, rfl⟩ | with_reducible refine W.ret ?_)
 exact ⟨rfl, A', r2⟩
theorem aFi {E : aX} (r : tT V hs a m A g pr (.negSucc 0) pb L pa pm sv lb S X) : W (S22 E [.ptr pr 0] g) λ v g' => v = .int .i64 (.ofNat 16) /\ g' = g := by
 have o := r.o; have e : bV (.int .i64 (.negSucc 0)) (.int .i64 (.negSucc 0)) = some (.bool true) := by rw [jN]; simp
 show W (aCy E (.ptr pr 0) g) _; unfold aCy
 repeat' (first | with_reducible refine sT ?_ | with_reducible refine sF ?_ | with_reducible refine g1 ?_ | with_reducible refine g2 ?_ | with_reducible refine g3 ?_ | with_reducible refine g4 ?_ | ((with_reducible apply sV); first | exact e | exact pickT _ _ | exact pickF _ _ | exact aD.read (by assumption) (by rfl) | exact aD.readN (by assumption) (Nat.le_of_ble_eq_true rfl) | exact fZ (by omega) | exact gE (by omega) | exact gtT (by omega) | exact gtF (by omega) | exact leT (by omega) | exact gF (by omega) | exact geT (by omega) | exact geF (by omega) | exact gG (by omega) | exact gH (by omega) | exact fS (by omega) | exact fY (by omega) | exact aJ (by omega) | exact cS (by omega) | exact aH (by omega) (by omega) | exact aI (by omega) _ | exact aO _ _ _ _ | exact aN _ _ _ _ | exact aM _ _ _ | exact rfl) | exact W.ret ⟨rfl, rfl⟩ | with_reducible refine W.ret ?_)
theorem aMC {E F G : aX} (hE : hU V Es' E) (hF : hU V Es' F) (hlf : ∀ a b, aB E 21 a b = S21 F a b) (hep : ∀ a b, aB E 40 a b = S40 F a b) (hM : ∀ a b, aB F 41 a b = S41 G a b) {w : Nat} (r : tT V hs a m A g pr (.ofNat w) pb L pa pm sv lb S X) (st : Stg hs a m) {h1 : H} (hf : aB Es' 42 [.ptr m 0, .int .i64 (.ofNat 2)] hs = some (.nils, h1)) {e : Nat} {l : DV} (c : Cmd Es' 7 e [] a m h1 (.tup [.int .i64 (.ofNat 0), l]) h') :
   W (S22 E [.ptr pr 0] g) λ v g' => v = .int .i64 (.ofNat 0) := by
 obtain ⟨_, gx, e0, rfl, A0', r0⟩ := aBU hF hM r st hf; obtain ⟨h2, A1, gy, e1, f2, r1⟩ := aAG hF hep hM r0 c; obtain ⟨u, gz, e2, A2, y, r2⟩ := qB hE r1 (n := 1) (xs' := [.int .i64 (.ofNat e)]) f2 rfl λ A => rfl
 obtain ⟨tv, y1, rfl⟩ := sQ y; obtain ⟨b0, _, y2, y3, rfl⟩ := aV.1 y1; obtain ⟨b1, _, y4, y5, rfl⟩ := aV.1 y3; cases y5; have := dN y2; subst this; have o := r.o; have o0 := r0.o; have o1 := r1.o; show W (aCy E (.ptr pr 0) g) _; unfold aCy
 repeat' (first | with_reducible refine sT ?_ | with_reducible refine sF ?_ | with_reducible refine g1 ?_ | with_reducible refine g2 ?_ | with_reducible refine g3 ?_ | with_reducible refine g4 ?_ | rw [hlf] | refine sW e0 ?_ | refine sW e1 ?_ | ((with_reducible apply sV); first | exact aXN | exact pickT _ _ | exact pickF _ _ | exact (show aW .nils = some (.int .i64 (.ofNat 0)) from rfl) | exact aD.read (by assumption) (by rfl) | exact aD.readN (by assumption) (Nat.le_of_ble_eq_true rfl) | exact fZ (by omega) | exact gE (by omega) | exact gtT (by omega) | exact gtF (by omega) | exact leT (by omega) | exact gF (by omega) | exact geT (by omega) | exact geF (by omega) | exact gG (by omega) | exact gH (by omega) | exact fS (by omega) | exact fY (by omega) | exact aJ (by omega) | exact cS (by omega) | exact aH (by omega) (by omega) | exact aI (by omega) _ | exact aO _ _ _ _ | exact aN _ _ _ _ | exact aM _ _ _ | exact rfl) | exact W.ret ⟨rfl, rfl⟩ | with_reducible refine W.ret ?_)
 rw [rck (rcI (o1.read (j := 0) rfl) (by simp [iB]))]
 refine sL1 rfl ?_; refine sW e2 ?_
 repeat' (first | with_reducible refine sT ?_ | with_reducible refine sF ?_ | with_reducible refine g1 ?_ | with_reducible refine g2 ?_ | with_reducible refine g3 ?_ | with_reducible refine g4 ?_ | ((with_reducible apply sV); first | exact aD.read (by assumption) (by rfl) | exact aD.readN (by assumption) (Nat.le_of_ble_eq_true rfl) | exact fZ (by omega) | exact gE (by omega) | exact gtT (by omega) | exact gtF (by omega) | exact leT (by omega) | exact gF (by omega) | exact geT (by omega) | exact geF (by omega) | exact gG (by omega) | exact gH (by omega) | exact fS (by omega) | exact fY (by omega) | exact aJ (by omega) | exact cS (by omega) | exact aH (by omega) (by omega) | exact aI (by omega) _ | exact aO _ _ _ _ | exact aN _ _ _ _ | exact aM _ _ _ | exact rfl) | exact W.ret ⟨rfl, rfl⟩ | with_reducible refine W.ret ?_)
 rfl
theorem ArV.grown (r : ArV V hs a m A g pa pm sv lb S X) (k : bX g g') : ArV V hs a m A g' pa pm sv lb S X := ⟨(aHa r.hr k).1, r.a, r.m, r.s, r.q.grown k, r.d⟩
theorem aBL {E : aX} (r : ArV V hs a m A g pa pm sv lb S X) (b : aD g pb L) (m1 : ¬ rng Ob A pb) (m2 : ¬ svF S sv lb pb) : W (S18 E [.ptr pa 0] g) λ v g' => ∃ pr, v = .ptr pr 0 /\ tT V hs a m A g' pr (.negSucc 0) pb L pa pm sv lb S X := by
 show W (aCC E (.ptr pa 0) g) _; unfold aCC
 repeat' (first | with_reducible refine sT ?_ | with_reducible refine sF ?_ | with_reducible refine g1 ?_ | with_reducible refine g2 ?_ | with_reducible refine g3 ?_ | with_reducible refine g4 ?_ | ((with_reducible apply sV); first | exact aD.read (by assumption) (by rfl) | exact aD.readN (by assumption) (Nat.le_of_ble_eq_true rfl) | exact fZ (by omega) | exact gE (by omega) | exact gtT (by omega) | exact gtF (by omega) | exact leT (by omega) | exact gF (by omega) | exact geT (by omega) | exact geF (by omega) | exact gG (by omega) | exact gH (by omega) | exact fS (by omega) | exact fY (by omega) | exact aJ (by omega) | exact cS (by omega) | exact aH (by omega) (by omega) | exact aI (by omega) _ | exact aO _ _ _ _ | exact aN _ _ _ _ | exact aM _ _ _ | exact rfl) | exact W.ret ⟨rfl, rfl⟩ | with_reducible refine W.ret ?_)
 refine sX λ ga z1 k1 o1 => ?_
 repeat' (first | with_reducible refine sT ?_ | with_reducible refine sF ?_ | with_reducible refine g1 ?_ | with_reducible refine g2 ?_ | with_reducible refine g3 ?_ | with_reducible refine g4 ?_ | ((with_reducible apply sV); first | exact aD.read (by assumption) (by rfl) | exact aD.readN (by assumption) (Nat.le_of_ble_eq_true rfl) | exact fZ (by omega) | exact gE (by omega) | exact gtT (by omega) | exact gtF (by omega) | exact leT (by omega) | exact gF (by omega) | exact geT (by omega) | exact geF (by omega) | exact gG (by omega) | exact gH (by omega) | exact fS (by omega) | exact fY (by omega) | exact aJ (by omega) | exact cS (by omega) | exact aH (by omega) (by omega) | exact aI (by omega) _ | exact aO _ _ _ _ | exact aN _ _ _ _ | exact aM _ _ _ | exact rfl) | exact W.ret ⟨rfl, rfl⟩ | with_reducible refine W.ret ?_)
 exact ⟨g.size, rfl, r.grown k1, o1, λ h => by have := aZD r.hr h; omega, λ h => by have := r.q.in_ h; omega, b.grown k1, m1, m2, by have := b.1; omega⟩
end
end Go.Proofs.YthpciaidbgjoeaaGreat
end
