/- Specs. No condition beyond the theorems' own. -/
import Derived.Test.YthpciaidbgjoeaaGreatS2
set_option linter.unusedVariables false
set_option linter.unusedSimpArgs false
noncomputable section
namespace Go.Proofs.YthpciaidbgjoeaaGreat
open Go.DI
section
variable {g g' : H} {sv lb : Nat} {S : List fL} {X : List pC}
theorem aNo (q : SvS g sv lb S X) {E : aX} (hE : E 33 = some (S33 E)) {i : Nat} {B : fL} {x : pC} (hi : S[i]? = some B) (hx : X[i]? = some x) :
   W (S14 E [.ptr sv 0, .int .i64 (.ofNat i)] g) λ v g' => v = .bool true /\ sG (svF S sv lb) g g' /\ SvS g' sv lb S (X.set i { x with ls := true }) := by
 have hA := q.at_ i B _ hi hx; obtain ⟨c, o, f, nn⟩ := hA; have hmem := List.mem_of_getElem? hi; have bA : ∀ args m, aB E 33 args m = S33 E args m := λ args m => cF hE args m
 show W (aLG E (.ptr sv 0) (.int .i64 (.ofNat i)) g) _; unfold aLG aLF; refine sN bA (aUu q.svs (aNp hi)) ?_
 rintro _ gg ⟨rfl, rfl⟩
 repeat' (first | with_reducible refine sT ?_ | with_reducible refine sF ?_ | with_reducible refine g1 ?_ | with_reducible refine g2 ?_ | with_reducible refine g3 ?_ | with_reducible refine g4 ?_ | ((with_reducible apply sV); first | exact aD.read (by assumption) (by rfl) | exact aD.readN (by assumption) (Nat.le_of_ble_eq_true rfl) | exact fZ (by omega) | exact gE (by omega) | exact gtT (by omega) | exact gtF (by omega) | exact leT (by omega) | exact gF (by omega) | exact geT (by omega) | exact geF (by omega) | exact gG (by omega) | exact gH (by omega) | exact fS (by omega) | exact fY (by omega) | exact aJ (by omega) | exact cS (by omega) | exact aH (by omega) (by omega) | exact aI (by omega) _ | exact aO _ _ _ _ | exact aN _ _ _ _ | exact aM _ _ _ | exact rfl) | exact W.ret ⟨rfl, rfl⟩ | with_reducible refine W.ret ?_)
 refine sS1 (j := 3) o (Nat.le_of_ble_eq_true rfl) rfl λ gh o2 k2 => ?_
 repeat' (first | with_reducible refine sT ?_ | with_reducible refine sF ?_ | with_reducible refine g1 ?_ | with_reducible refine g2 ?_ | with_reducible refine g3 ?_ | with_reducible refine g4 ?_ | ((with_reducible apply sV); first | exact aD.read (by assumption) (by rfl) | exact aD.readN (by assumption) (Nat.le_of_ble_eq_true rfl) | exact fZ (by omega) | exact gE (by omega) | exact gtT (by omega) | exact gtF (by omega) | exact leT (by omega) | exact gF (by omega) | exact geT (by omega) | exact geF (by omega) | exact gG (by omega) | exact gH (by omega) | exact fS (by omega) | exact fY (by omega) | exact aJ (by omega) | exact cS (by omega) | exact aH (by omega) (by omega) | exact aI (by omega) _ | exact aO _ _ _ _ | exact aN _ _ _ _ | exact aM _ _ _ | exact rfl) | exact W.ret ⟨rfl, rfl⟩ | with_reducible refine W.ret ?_)
 have k3 := k2.off (F := λ y => y = B.p) rfl
 exact ⟨rfl, k3.weak λ c _ hc => .inr (.inr ⟨B, hmem, .inl hc⟩), q.set k3 hi (λ c hc => .inl hc) ⟨c, o2, f.off k3 (λ e => nn.2.2.2.1 e.symm) (λ e => nn.1 e.symm) (λ e => nn.2.1 e.symm) (λ e => nn.2.2.1 e.symm) (λ e => nn.2.2.2.2 e.symm), nn⟩⟩
end
def cI (q k a b : Nat) : List Int := kX 15 q k (.ofNat a) (.ofNat b) 0 0 0
def aOu (q e : Nat) (k : Int) : Ln := kW (kX 15 q 5 k (.ofNat e) 0 0 0)
def Vk (x y : Int) : Vl := λ b => match b with
 | 0 => some ⟨.int .i64 x, rfl⟩
 | 1 => some ⟨.str (aOu 1 2 x), rfl⟩
 | 3 => some ⟨.int .i64 y, rfl⟩
 | 4 => some ⟨.str (aOu 1 2 y), rfl⟩
 | 5 => some ⟨.str (aOu 0 1 y), rfl⟩
 | 6 => some ⟨.str (kW (cI 2 6 2 0)), rfl⟩
 | 7 => some ⟨.str (kW (cI 3 7 3 0)), rfl⟩
 | b + 8 => bif Nat.blt b 8 then some ⟨.str (kW (cI 0 5 b 1)), rfl⟩ else none
 | _ => none
theorem aWR {x y : Int} : ∀ b u, Vk x y b = some u -> b < 16 := λ b u h => by
 unfold Vk at h; split at h <;> first | omega | (rename_i b'; by_cases e : Nat.blt b' 8 = true; (rw [Nat.blt_eq] at e; omega); (rw [Bool.eq_false_iff.2 e] at h; cases h)) | cases h
theorem lZ {V : Vl} {A : Re} {b : Nat} {u : DV} {hu : okU u = true} (hV : V b = some ⟨u, hu⟩) : rl V A (.mp b) = some u := by simp only [rl, hV]
theorem vk0 {x y : Int} {A : Re} {w : DV} (h : rl (Vk x y) A (.mp 0) = some w) : w = .int .i64 x := by
 rw [lZ (u := .int .i64 x) (hu := rfl) rfl] at h; cases h; rfl
theorem vk3 {x y : Int} {A : Re} {w : DV} (h : rl (Vk x y) A (.mp 3) = some w) : w = .int .i64 y := by
 rw [lZ (u := .int .i64 y) (hu := rfl) rfl] at h; cases h; rfl
def aOt (q e : Nat) (a : DV) : DV := .agg [.int .i64 (.ofNat 15), .int .i64 (.ofNat q), .int .i64 (.ofNat 5), a, .int .i64 (.ofNat e), .int .i64 (.ofNat 0), .int .i64 (.ofNat 0), .int .i64 (.ofNat 0)]
def aVV : List (DV × Nat) := [(aOt 1 2 (.mp 0), 1), (aOt 1 2 (.mp 3), 4), (aOt 0 1 (.mp 3), 5), (.agg (iU (cI 2 6 2 0)), 6), (.agg (iU (cI 3 7 3 0)), 7)] ++ (List.range 8).map λ i => (.agg (iU (cI 0 5 i 1)), i + 8)
def encS : List (List DV × DV) := aVV.map λ p => ([p.1], .tup [.mp p.2, .int .i64 (.ofNat 0)])
def decS : List (List DV × DV) := aVV.map λ p => ([.mp p.2], .tup [p.1, .int .i64 (.ofNat 0)])
def aGK (w : Nat) : List DV := (List.range w).map λ i => .int .i64 (.ofNat i)
def aDW (w : Nat) : bB := λ args h => match args with
 | [.ptr pm 0, .mp t, .int .i64 (.ofNat _)] => (rdCell h.get pm 0).bind λ l => match l with
   | .slc b 0 n _ _ => bif Nat.beq n w then (rdCells h.get b 0 n).bind λ vs => bif mX vs (aGK w) then
       bif Nat.beq t 0 then (rdCell h.get pm 3).bind λ ho => match ho with
         | .int .i64 (.ofNat _) => some (.int .i64 (.ofNat 9), h)
         | _ => none
       else bif Nat.beq t 3 then some (.int .i64 (.ofNat 7), h) else none
     else none else none
   | _ => none
 | _ => none
def Bf (w : Nat) : aX := fK 53 (orF (aLY encS) (aB Ez 53)) (fK 87 (orF (aLY decS) (aB Ez 87)) (fK 165 (orF (aDW w) (aB Ez 165)) bIi))
def Ef (w : Nat) : aX := SE (Bf w) (aBq small .e) 30
def InG (w : Nat) (x y : Int) : Prop := (∃ n, n < w /\ x = .ofNat n) /\ ∀ n : Nat, n < w -> y ≠ .ofNat n
theorem aAp {q e : Nat} {k : Int} (hq : q < 100) (he : e < 100) (hk : eS k) : rV 15 q 5 k (.ofNat e) 0 0 0 :=
 ⟨by decide, by omega, by decide, by decide, hk, kH (by omega), kH (n := 0) (by decide), kH (n := 0) (by decide), kH (n := 0) (by decide)⟩
theorem aHt {q k a b : Nat} (hq : q < 100) (h1 : 1 <= k) (h9 : k <= 9) (ha : a < 100) (hb : b < 100) : rV 15 q k (.ofNat a) (.ofNat b) 0 0 0 :=
 ⟨by decide, by omega, h1, h9, kH (by omega), kH (by omega), kH (n := 0) (by decide), kH (n := 0) (by decide), kH (n := 0) (by decide)⟩
theorem oI.stubs {V : Vl} {F : bB} : ∀ {l : List (List DV × DV)}, (∀ p ∈ l, ∀ A g args', fB V A p.1 = some args' -> W (F args' g) λ w g' => bX g g' /\ rl V A p.2 = some w) -> oI V (aLY l) F
 | [], _ => λ O A h g args args' r ha => WR.none
 | p :: l, hl => λ O A h g args args' r ha => by
   show WR V O A g (bif mX args p.1 then some (p.2, h) else aLY l args h) _; cases hd : mX args p.1 with
   | true =>
     have e1 := mF _ _ hd; subst e1; refine WR.ofW λ u h' e => ?_
     replace e : some (p.2, h) = some (u, h') := e
     cases e; refine W.mono (hl p (List.mem_cons_self ..) A g args' ha) ?_
     rintro w g' ⟨k, hv⟩
     exact ⟨A, (aHa r k).2, (aHa r k).1, hv⟩
   | false => exact oI.stubs (λ p hp => hl p (List.mem_cons_of_mem _ hp)) O A h g args args' r ha
theorem zV (l : List Int) : zW (.agg (iU l)) = true := by
 show oW (iU l) = true; unfold iU
 induction l with
 | nil => rfl
 | cons a t ih => simp only [List.map_cons, oW, zW, ih, Bool.and_self]
theorem bAh {V : Vl} {F : bB} (hF : oH F) {c q k : Nat} {a b x y z : Int} (ok : rV c q k a b x y z) {d : DV} (hd : ∀ A, rl V A d = some (.agg (iU (kX c q k a b x y z)))) {t : Nat} (ht : ∀ A, rl V A (.mp t) = some (.str (kW (kX c q k a b x y z)))) :
   ∀ A g args', fB V A [d] = some args' -> W (F args' g) λ w g' => bX g g' /\ rl V A (.tup [.mp t, .int .i64 (.ofNat 0)]) = some w := λ A g args' ha => by
 obtain ⟨a', _, e1, e2, rfl⟩ := aV.1 ha; cases e2; rw [hd A] at e1; cases e1; refine W.mono (hF c q k a b x y z g ok) ?_
 rintro _ g' ⟨rfl, k⟩
 exact ⟨k, iY (aV.2 ⟨_, _, ht A, rfl, rfl⟩)⟩
theorem bAx {V : Vl} {F : bB} (hF : vI F) {c q k : Nat} {a b x y z : Int} (ok : rV c q k a b x y z) {d : DV} (hd : ∀ A, rl V A d = some (.agg (iU (kX c q k a b x y z)))) {t : Nat} (ht : ∀ A, rl V A (.mp t) = some (.str (kW (kX c q k a b x y z)))) :
   ∀ A g args', fB V A [.mp t] = some args' -> W (F args' g) λ w g' => bX g g' /\ rl V A (.tup [d, .int .i64 (.ofNat 0)]) = some w := λ A g args' ha => by
 obtain ⟨a', _, e1, e2, rfl⟩ := aV.1 ha; cases e2; rw [ht A] at e1; cases e1; refine W.mono (hF c q k a b x y z g ok) ?_
 rintro _ g' ⟨rfl, k⟩
 exact ⟨k, iY (aV.2 ⟨_, _, hd A, rfl, rfl⟩)⟩
theorem aJM {x y : Int} (hx : eS x) (hy : eS y) : ∀ p ∈ aVV, ∃ q k a b, rV 15 q k a b 0 0 0 /\ (∀ A, rl (Vk x y) A p.1 = some (.agg (iU (kX 15 q k a b 0 0 0)))) /\ ∀ A, rl (Vk x y) A (.mp p.2) = some (.str (kW (kX 15 q k a b 0 0 0))) := λ p hp => by
 unfold aVV at hp; rcases List.mem_append.1 hp with hp | hp
 · simp only [List.mem_cons, List.not_mem_nil, or_false] at hp; rcases hp with rfl | rfl | rfl | rfl | rfl
   · exact ⟨1, 5, x, .ofNat 2, aAp (by decide) (by decide) hx, λ A => rfl, λ A => lZ (hu := rfl) rfl⟩
   · exact ⟨1, 5, y, .ofNat 2, aAp (by decide) (by decide) hy, λ A => rfl, λ A => lZ (hu := rfl) rfl⟩
   · exact ⟨0, 5, y, .ofNat 1, aAp (by decide) (by decide) hy, λ A => rfl, λ A => lZ (hu := rfl) rfl⟩
   · exact ⟨2, 6, .ofNat 2, .ofNat 0, aHt (by decide) (by decide) (by decide) (by decide) (by decide), λ A => fN _ A _ (zV _), λ A => lZ (hu := rfl) rfl⟩
   · exact ⟨3, 7, .ofNat 3, .ofNat 0, aHt (by decide) (by decide) (by decide) (by decide) (by decide), λ A => fN _ A _ (zV _), λ A => lZ (hu := rfl) rfl⟩
 · obtain ⟨i, hi, rfl⟩ := List.mem_map.1 hp; rw [List.mem_range] at hi; refine ⟨0, 5, .ofNat i, .ofNat 1, aHt (by decide) (by decide) (by decide) (by omega) (by decide), λ A => fN _ A _ (zV _), λ A => lZ (u := .str (kW (cI 0 5 i 1))) (hu := rfl) ?_⟩
   show (bif Nat.blt i 8 then some _ else none) = _; rw [show Nat.blt i 8 = true from by rw [Nat.blt_eq]; exact hi]; rfl
theorem aVg {x y : Int} (hx : eS x) (hy : eS y) {F : bB} (hF : oH F) : oI (Vk x y) (aLY encS) F := by
 refine oI.stubs λ p0 hp0 => ?_
 obtain ⟨p, hp, rfl⟩ := List.mem_map.1 hp0; obtain ⟨q, k, a, b, h1, h2, h3⟩ := aJM hx hy p hp; exact bAh hF h1 h2 h3
theorem aVQ {x y : Int} (hx : eS x) (hy : eS y) {F : bB} (hF : vI F) : oI (Vk x y) (aLY decS) F := by
 refine oI.stubs λ p0 hp0 => ?_
 obtain ⟨p, hp, rfl⟩ := List.mem_map.1 hp0; obtain ⟨q, k, a, b, h1, h2, h3⟩ := aJM hx hy p hp; exact bAx hF h1 h2 h3
def aCZ (k : Int) (w : Nat) : Int := if 0 <= k /\ k < w then k else -1
def aDS (B : bB) : Prop := ∀ (b w cp : Nat) (op : Bool) (k : Int) (h : H), w <= 100 -> rdCells h.get b 0 w = some (aGK w) -> W (B [.slc b 0 w cp op, .int .i64 k] h) λ v h' => v = .int .i64 (aCZ k w) /\ h' = h
theorem aNB {w i : Nat} (h : i < w) : (aGK w)[i]? = some (.int .i64 (.ofNat i)) := by unfold aGK; rw [List.getElem?_map, List.getElem?_range h]; rfl
theorem aNU (w : Nat) : oW (aGK w) = true := by
 unfold aGK; generalize List.range w = l
 induction l with
 | nil => rfl
 | cons a t ih => simp only [List.map_cons, oW, zW, ih, Bool.and_self]
theorem eqI {k : IntKind} {a b : Int} (h : a = b) : bV (.int k a) (.int k b) = some (.bool true) := by rw [jN, h]; simp
theorem neI {k : IntKind} {a b : Int} (h : a ≠ b) : bV (.int k a) (.int k b) = some (.bool false) := by rw [jN]; simp [h]
theorem aGY {E : aX} {b w cp : Nat} {op : Bool} {k : Int} {h : H} (hw : w <= 100) (hr : rdCells h.get b 0 w = some (aGK w)) : ∀ (j i m : Nat), i + j = w -> (∀ x : Nat, x < i -> k ≠ .ofNat x) ->
   W (wU E (.slc b 0 w cp op) (.int .i64 k) (.int .i64 (.ofNat w)) (m + (j + 1)) (.int .i64 (.ofNat i)) h) λ v h' => v = .int .i64 (aCZ k w) /\ h' = h := by
 obtain ⟨hl, hg⟩ := pR hr; intro j
 induction j with
 | zero =>
   intro i m hj hn; have hi : i = w := by omega
   subst hi; show W (aBh E _ _ _ (wU E _ _ _ m) _ h) _; unfold aBh aDP; have e : aCZ k i = .negSucc 0 := by
     unfold aCZ; rw [if_neg]; · rfl
     rintro ⟨h1, h2⟩
     exact hn k.toNat (by omega) (by simp only [Int.ofNat_eq_natCast]; omega)
   repeat' (first | with_reducible refine sT ?_ | with_reducible refine sF ?_ | with_reducible refine g1 ?_ | with_reducible refine g2 ?_ | with_reducible refine g3 ?_ | with_reducible refine g4 ?_ | ((with_reducible apply sV); first | exact aD.read (by assumption) (by rfl) | exact aD.readN (by assumption) (Nat.le_of_ble_eq_true rfl) | exact fZ (by omega) | exact gE (by omega) | exact gtT (by omega) | exact gtF (by omega) | exact leT (by omega) | exact gF (by omega) | exact geT (by omega) | exact geF (by omega) | exact gG (by omega) | exact gH (by omega) | exact fS (by omega) | exact fY (by omega) | exact aJ (by omega) | exact cS (by omega) | exact aH (by omega) (by omega) | exact aI (by omega) _ | exact aO _ _ _ _ | exact aN _ _ _ _ | exact aM _ _ _ | exact rfl) | exact W.ret ⟨rfl, rfl⟩ | with_reducible refine W.ret ?_)
   exact ⟨by rw [e], rfl⟩
 | succ j ih =>
   intro i m hj hn; have hi : i < w := by omega
   have lc : aF h.get (.ptr b i) = some (.int .i64 (.ofNat i)) := by
     have := hg i _ (aNB hi); rw [Nat.zero_add] at this; simp only [aF, bM, this]
   show W (aBh E _ _ _ (wU E _ _ _ (m + (j + 1))) _ h) _; unfold aBh; have iA := aUZ (b := b) (c := cp) (op := op) hi; by_cases e : k = .ofNat i
   · subst e
     repeat' (first | with_reducible refine sT ?_ | with_reducible refine sF ?_ | with_reducible refine g1 ?_ | with_reducible refine g2 ?_ | with_reducible refine g3 ?_ | with_reducible refine g4 ?_ | ((with_reducible apply sV); first | exact iA | exact lc | exact eqI rfl | exact aD.read (by assumption) (by rfl) | exact aD.readN (by assumption) (Nat.le_of_ble_eq_true rfl) | exact fZ (by omega) | exact gE (by omega) | exact gtT (by omega) | exact gtF (by omega) | exact leT (by omega) | exact gF (by omega) | exact geT (by omega) | exact geF (by omega) | exact gG (by omega) | exact gH (by omega) | exact fS (by omega) | exact fY (by omega) | exact aJ (by omega) | exact cS (by omega) | exact aH (by omega) (by omega) | exact aI (by omega) _ | exact aO _ _ _ _ | exact aN _ _ _ _ | exact aM _ _ _ | exact rfl) | exact W.ret ⟨rfl, rfl⟩ | with_reducible refine W.ret ?_)
     exact ⟨by unfold aCZ; rw [if_pos ⟨by simp only [Int.ofNat_eq_natCast]; omega, by simp only [Int.ofNat_eq_natCast]; omega⟩], rfl⟩
   · repeat' (first | with_reducible refine sT ?_ | with_reducible refine sF ?_ | with_reducible refine g1 ?_ | with_reducible refine g2 ?_ | with_reducible refine g3 ?_ | with_reducible refine g4 ?_ | ((with_reducible apply sV); first | exact iA | exact lc | exact neI e | exact aD.read (by assumption) (by rfl) | exact aD.readN (by assumption) (Nat.le_of_ble_eq_true rfl) | exact fZ (by omega) | exact gE (by omega) | exact gtT (by omega) | exact gtF (by omega) | exact leT (by omega) | exact gF (by omega) | exact geT (by omega) | exact geF (by omega) | exact gG (by omega) | exact gH (by omega) | exact fS (by omega) | exact fY (by omega) | exact aJ (by omega) | exact cS (by omega) | exact aH (by omega) (by omega) | exact aI (by omega) _ | exact aO _ _ _ _ | exact aN _ _ _ _ | exact aM _ _ _ | exact rfl) | exact W.ret ⟨rfl, rfl⟩ | with_reducible refine W.ret ?_)
     exact ih (i + 1) m (by omega) λ x hx => by
       by_cases h : x = i
       · subst h; exact e
       · exact hn x (by omega)
theorem aOe {E : aX} : aDS (aHH E) := by
 intro b w cp op k h hw hr; show W (aDQ E (.slc b 0 w cp op) (.int .i64 k) h) _; unfold aDQ
 repeat' (first | with_reducible refine sT ?_ | with_reducible refine sF ?_ | with_reducible refine g1 ?_ | with_reducible refine g2 ?_ | with_reducible refine g3 ?_ | with_reducible refine g4 ?_ | ((with_reducible apply sV); first | exact aD.read (by assumption) (by rfl) | exact aD.readN (by assumption) (Nat.le_of_ble_eq_true rfl) | exact fZ (by omega) | exact gE (by omega) | exact gtT (by omega) | exact gtF (by omega) | exact leT (by omega) | exact gF (by omega) | exact geT (by omega) | exact geF (by omega) | exact gG (by omega) | exact gH (by omega) | exact fS (by omega) | exact fY (by omega) | exact aJ (by omega) | exact cS (by omega) | exact aH (by omega) (by omega) | exact aI (by omega) _ | exact aO _ _ _ _ | exact aN _ _ _ _ | exact aM _ _ _ | exact rfl) | exact W.ret ⟨rfl, rfl⟩ | with_reducible refine W.ret ?_)
 have := aGY (E := E) (cp := cp) (op := op) (k := k) hw hr w 0 (aY - (w + 1)) (by omega) λ x hx => absurd hx (Nat.not_lt_zero _)
 rw [show aY - (w + 1) + (w + 1) = aY from by unfold aY; omega] at this
 exact this
theorem aMm {w : Nat} {x y : Int} (hw : w <= 8) (hk : InG w x y) {E : aX} (hI : kT E 106 aDS) : oI (Vk x y) (aDW w) (aGa E) := by
 intro O A h g args args' r ha; obtain ⟨BI, bI, sI⟩ := hI.call; refine WR.ofW λ v h' e => ?_
 unfold aDW at e; split at e
 · rename_i pm tk ep; obtain ⟨p', _, e1, e2, rfl⟩ := aV.1 ha; obtain ⟨q', _, e3, e4, rfl⟩ := aV.1 e2; obtain ⟨u', _, e5, e6, rfl⟩ := aV.1 e4; cases e6; obtain ⟨pb, hpm, rfl⟩ := gZ e1; have y5 := dN e5; subst y5; obtain ⟨lv, hl, e⟩ := Option.bind_eq_some_iff.1 e; simp only at e; split at e
   · rename_i bl nn cp op; obtain ⟨c1, e⟩ := aL e; have hn := Nat.eq_of_beq_eq_true c1; subst hn; obtain ⟨vs, hvs, ea⟩ := Option.bind_eq_some_iff.1 e; obtain ⟨c2, eb⟩ := aL ea
     clear e ea
     have hv := mF _ _ c2; subst hv; obtain ⟨w1, l1, v1⟩ := hld r hpm hl; obtain ⟨cl, hcl, rfl⟩ := fU v1; obtain ⟨ws, hws, rws⟩ := eR r.obj hcl _ _ hvs; rw [iH _ _ _ (aNU nn)] at rws; cases rws; by_cases t0 : Nat.beq tk 0 = true
     · have ht := Nat.eq_of_beq_eq_true t0; subst ht; have y3 := vk0 e3; subst y3; obtain ⟨n, hx, rfl⟩ := hk.1; obtain ⟨v2, h2, e2, e2', e2''⟩ := sI cl nn cp op (.ofNat n) g (by omega) hws
       rw [e2', e2''] at e2; have e : ((rdCell h.get pm 3).bind λ ho => match ho with
         | .int .i64 (.ofNat _) => some (DV.int .i64 (.ofNat 9), h)
         | _ => none) = some (v, h') := eb
       obtain ⟨ho, hho, e9⟩ := Option.bind_eq_some_iff.1 e; split at e9
       · rename_i hole; cases e9; obtain ⟨w3, l3, v3⟩ := hld r hpm hho; have y3 := dN v3; subst y3; have hix : aCZ (.ofNat n) nn = .ofNat n := by
           unfold aCZ; rw [if_pos ⟨by simp only [Int.ofNat_eq_natCast]; omega, by simp only [Int.ofNat_eq_natCast]; omega⟩]
         rw [hix] at e2; have ne : cW (.int .i64 (.ofNat hole)) (.int .i64 (.negSucc 0)) = some (.bool true) := by rw [nO]; simp
         show W (wV E (.ptr pb 0) (.int .i64 (.ofNat n)) (.int .i64 (.ofNat ep)) g) _; unfold wV
         repeat' (first | with_reducible refine sT ?_ | with_reducible refine sF ?_ | with_reducible refine g1 ?_ | with_reducible refine g2 ?_ | with_reducible refine g3 ?_ | with_reducible refine g4 ?_ | refine sC bI e2 ?_ | ((with_reducible apply sV); first | exact l1 | exact l3 | exact ne | exact aD.read (by assumption) (by rfl) | exact aD.readN (by assumption) (Nat.le_of_ble_eq_true rfl) | exact fZ (by omega) | exact gE (by omega) | exact gtT (by omega) | exact gtF (by omega) | exact leT (by omega) | exact gF (by omega) | exact geT (by omega) | exact geF (by omega) | exact gG (by omega) | exact gH (by omega) | exact fS (by omega) | exact fY (by omega) | exact aJ (by omega) | exact cS (by omega) | exact aH (by omega) (by omega) | exact aI (by omega) _ | exact aO _ _ _ _ | exact aN _ _ _ _ | exact aM _ _ _ | exact rfl) | exact W.ret ⟨rfl, rfl⟩ | with_reducible refine W.ret ?_)
         exact ⟨A, .refl _ _ _, r, rfl⟩
       · cases e9
     · rw [Bool.eq_false_iff.2 t0, cond_false] at eb; obtain ⟨t3, ec⟩ := aL eb; have ht := Nat.eq_of_beq_eq_true t3; subst ht; cases ec; have y3 := vk3 e3; subst y3; obtain ⟨v2, h2, e2, e2', e2''⟩ := sI cl nn cp op y g (by omega) hws
       rw [e2', e2''] at e2; have hix : aCZ y nn = .negSucc 0 := by
         unfold aCZ; rw [if_neg]; · rfl
         rintro ⟨h1, h2⟩
         exact hk.2 y.toNat (by omega) (by simp only [Int.ofNat_eq_natCast]; omega)
       rw [hix] at e2; show W (wV E (.ptr pb 0) (.int .i64 y) (.int .i64 (.ofNat ep)) g) _; unfold wV
       repeat' (first | with_reducible refine sT ?_ | with_reducible refine sF ?_ | with_reducible refine g1 ?_ | with_reducible refine g2 ?_ | with_reducible refine g3 ?_ | with_reducible refine g4 ?_ | refine sC bI e2 ?_ | ((with_reducible apply sV); first | exact l1 | exact aD.read (by assumption) (by rfl) | exact aD.readN (by assumption) (Nat.le_of_ble_eq_true rfl) | exact fZ (by omega) | exact gE (by omega) | exact gtT (by omega) | exact gtF (by omega) | exact leT (by omega) | exact gF (by omega) | exact geT (by omega) | exact geF (by omega) | exact gG (by omega) | exact gH (by omega) | exact fS (by omega) | exact fY (by omega) | exact aJ (by omega) | exact cS (by omega) | exact aH (by omega) (by omega) | exact aI (by omega) _ | exact aO _ _ _ _ | exact aN _ _ _ _ | exact aM _ _ _ | exact rfl) | exact W.ret ⟨rfl, rfl⟩ | with_reducible refine W.ret ?_)
       exact ⟨A, .refl _ _ _, r, rfl⟩
   · cases e
 · cases e
theorem aON {w : Nat} {x y : Int} (hw : w <= 8) (hx : eS x) (hy : eS y) (hk : InG w x y) (j : Nat) : hU (Vk x y) (Ef w) (EL (j + 60)) := aHw (j := j + 30) aEB aEC (λ f F h m => by
 have ez1 : hU (Vk x y) Ez (EL (j + 30 + (m + 1))) := by
   have := bAf (Vk x y) (j + m + 1)
   rwa [show j + m + 1 + 30 = j + 30 + (m + 1) from by omega] at this
 rcases nI h with ⟨rfl, rfl⟩ | h
 · obtain ⟨B, e1, e2⟩ := aJF (j + 26 + m); rw [show j + 26 + m + 5 = j + 30 + (m + 1) from by omega] at e1
   exact ⟨B, e1, oI.or (aVg hx hy e2) (tN ez1 e1)⟩
 · rcases nI h with ⟨rfl, rfl⟩ | h
   · obtain ⟨B, e1, e2⟩ := aVn (j + 25 + m); rw [show j + 25 + m + 6 = j + 30 + (m + 1) from by omega] at e1
     exact ⟨B, e1, oI.or (aVQ hx hy e2) (tN ez1 e1)⟩
   · rcases nI h with ⟨rfl, rfl⟩ | h
     · have e1 : EL (j + 30 + (m + 1)) 165 = some (aGa (EL (j + 30 + m))) := eT (s := aGa) (by kernel_rfl) (by kernel_rfl) (j + 30 + m)
       have hI : kT (EL (j + 30 + m)) 106 aDS := ⟨_, (by
         have := eT (B := base) (T := table) (s := aHH) (f := 106) (by kernel_rfl) (by kernel_rfl) (j + 29 + m)
         rwa [show j + 29 + m + 1 = j + 30 + m from by omega] at this), aOe⟩
       exact ⟨_, e1, oI.or (aMm hw hk hI) (tN ez1 e1)⟩
     · cases h) 30
def hsb : H := ⟨16, .e⟩
def Ob (b : Nat) : Prop := b < 16
def aEN (E : aX) (w s : Nat) : Option (DV × H) :=
 (aB E 27 [.int .i64 (.ofNat 0), .int .i64 (.ofNat w)] hsb).bind λ x => (aB E 27 [.int .i64 (.ofNat w), .int .i64 (.ofNat s)] x.2).bind λ y => (aB E 26 [x.1, y.1] y.2).bind λ z => z.2.pushK (arB z.1 w) λ h => some (.ptr z.2.size 0, h)
structure ArV (V : Vl) (hs : H) (a m : Nat) (A : Re) (g : H) (pa pm sv lb : Nat) (S : List fL) (X : List pC) : Prop where
 hr : HR V Ob A hs g
 a : A a = some pa
 m : A m = some pm
 s : A 2 = some sv
 q : SvS g sv lb S X
 d : ∀ c, rng Ob A c -> ¬ svF S sv lb c
section
variable {V : Vl} {hs h' : H} {a m : Nat} {A : Re} {g g' : H} {pa pm sv lb : Nat} {S : List fL} {X X' : List pC}
theorem ArV.part (r : ArV V hs a m A g pa pm sv lb S X) {A' : Re} (s : wO Ob A g A' g') (r' : HR V Ob A' h' g') : ArV V h' a m A' g' pa pm sv lb S X :=
 ⟨r', s.le _ _ r.a, s.le _ _ r.m, s.le _ _ r.s, r.q.off s.off λ c hc hr => r.d c hr hc, λ c hc hf => by
   rcases uG s hc with h | h
   · exact r.d c h hf
   · have := r.q.in_ hf; omega⟩
theorem ArV.put (r : ArV V hs a m A g pa pm sv lb S X) (k : sG (svF S sv lb) g g') (q : SvS g' sv lb S X') : ArV V hs a m A g' pa pm sv lb S X' :=
 ⟨r.hr.keep k r.d, r.a, r.m, r.s, q, r.d⟩
theorem ArV.other (r : ArV V hs a m A g pa pm sv lb S X) {F : Nat -> Prop} (k : sG F g g') (h1 : ∀ c, F c -> ¬ rng Ob A c) (h2 : ∀ c, F c -> ¬ svF S sv lb c) : ArV V hs a m A g' pa pm sv lb S X :=
 ⟨r.hr.keep k λ c hr hf => h1 c hf hr, r.a, r.m, r.s, r.q.off k λ c hc hf => h2 c hf hc, r.d⟩
theorem ArV.cell (r : ArV V hs a m A g pa pm sv lb S X) {j : Nat} {v : DV} (hv : rdCell hs.get a j = some v) : ∃ w, aF g.get (.ptr pa j) = some w /\ rl V A v = some w := hld r.hr r.a hv
theorem ArV.c0 (r : ArV V hs a m A g pa pm sv lb S X) (hv : rdCell hs.get a 0 = some (.ptr 2 0)) : aF g.get (.ptr pa 0) = some (.ptr sv 0) := by
 obtain ⟨w, e1, e2⟩ := r.cell hv; obtain ⟨c, e3, rfl⟩ := gZ e2; rw [r.s] at e3; cases e3; exact e1
theorem ArV.c1 (r : ArV V hs a m A g pa pm sv lb S X) (hv : rdCell hs.get a 1 = some (.ptr m 0)) : aF g.get (.ptr pa 1) = some (.ptr pm 0) := by
 obtain ⟨w, e1, e2⟩ := r.cell hv; obtain ⟨c, e3, rfl⟩ := gZ e2; rw [r.m] at e3; cases e3; exact e1
theorem hrV {sv : Nat} (hV : ∀ b u, V b = some u -> b < 16) (hs : sv < g.size) : HR V Ob (A0 sv) hsb g where
 inj := λ a b c ha hb => by
   unfold A0 at ha hb; split at ha
   · split at hb
     · rename_i e1 e2; rw [e1, e2]
     · cases hb
   · cases ha
 dom := λ b c h => by
   unfold A0 at h; split at h
   · rename_i e; cases h; subst e; exact ⟨(by decide : 2 < 16), hs⟩
   · cases h
 obj0 := λ b c o _ ho => by
   have : hsb.get b = none := Tr.at_e b; rw [this] at ho; cases ho
 opq := λ b hb => ⟨hb, Tr.at_e b⟩
 unk := λ b u h => by
   exact hV b u h
end
theorem aMg {E : aX} {w s : Nat} {v : DV} {hA : H} (h : aEN E w s = some (v, hA)) : ∃ v1 k1 v2 k2 v3 k3, aB E 27 [.int .i64 (.ofNat 0), .int .i64 (.ofNat w)] hsb = some (v1, k1) /\ aB E 27 [.int .i64 (.ofNat w), .int .i64 (.ofNat s)] k1 = some (v2, k2) /\ aB E 26 [v1, v2] k2 = some (v3, k3) /\ v = .ptr k3.size 0 /\ hA = k3.push (arB v3 w) := by
 unfold aEN at h; obtain ⟨⟨v1, k1⟩, e1, h⟩ := Option.bind_eq_some_iff.1 h; obtain ⟨⟨v2, k2⟩, e2, h⟩ := Option.bind_eq_some_iff.1 h; obtain ⟨⟨v3, k3⟩, e3, h⟩ := Option.bind_eq_some_iff.1 h; rw [H.pushK_eq] at h; cases h; exact ⟨_, _, _, _, _, _, e1, e2, e3, rfl, rfl⟩
theorem aAS {V : Vl} {Es' E : aX} (hV : ∀ b u, V b = some u -> b < 16) (hE : hU V Es' E) (hN : kT E 25 rH) {N w s a m : Nat} {sec : Int} {hA : H} (n1 : 1 <= N) (n8 : N <= 8) (w2 : 2 <= w) (w8 : w <= 8) (sw : s + w <= N) (hsec : sec <= 2000)
   (hr : aEN Es' w s = some (.ptr a 0, hA)) (hm : rdCell hA.get a 1 = some (.ptr m 0)) (h : H) :
   W (S8 E [.int .i64 (.ofNat N), .int .i64 sec, .int .i64 (.ofNat w), .int .i64 (.ofNat s)] h) λ v g => ∃ A pa pm sv lb S, v = .ptr pa 0 /\ S.length = N /\ ArV V hA a m A g pa pm sv lb S (List.replicate N (zY (max sec.toNat 9))) /\ bX h g /\ (∀ c, rng Ob A c -> h.size <= c) /\ ∀ c, svF S sv lb c -> h.size <= c := by
 obtain ⟨v1, k1, v2, k2, v3, k3, f1, f2, f3, ea, rfl⟩ := aMg hr; cases ea; obtain ⟨BN, bN, sN'⟩ := hN.call; show W (aMR E (.int .i64 (.ofNat N)) (.int .i64 sec) (.int .i64 (.ofNat w)) (.int .i64 (.ofNat s)) h) _; unfold aMR
 repeat' (first | with_reducible refine sT ?_ | with_reducible refine sF ?_ | with_reducible refine g1 ?_ | with_reducible refine g2 ?_ | with_reducible refine g3 ?_ | with_reducible refine g4 ?_ | ((with_reducible apply sV); first | exact aD.read (by assumption) (by rfl) | exact aD.readN (by assumption) (Nat.le_of_ble_eq_true rfl) | exact fZ (by omega) | exact gE (by omega) | exact gtT (by omega) | exact gtF (by omega) | exact leT (by omega) | exact gF (by omega) | exact geT (by omega) | exact geF (by omega) | exact gG (by omega) | exact gH (by omega) | exact fS (by omega) | exact fY (by omega) | exact aJ (by omega) | exact cS (by omega) | exact aH (by omega) (by omega) | exact aI (by omega) _ | exact aO _ _ _ _ | exact aN _ _ _ _ | exact aM _ _ _ | exact rfl) | exact W.ret ⟨rfl, rfl⟩ | with_reducible refine W.ret ?_)
 refine sN bN (sN' N sec h n1 n8 hsec) ?_
 rintro _ ga ⟨sv, lb, S, rfl, hS, hle, a1, ⟨b1, b2, b3⟩, a3, a4, a5⟩
 have hsv : sv < ga.size := a1.1.1; have hat : ∀ (i : Nat) (B : fL) (x : pC), S[i]? = some B -> (List.replicate N (zY (max sec.toNat 9)))[i]? = some x -> mN ga B x := λ i B x hi hx => by
   rw [List.getElem?_replicate] at hx; split at hx
   · cases hx; exact b1 B (List.mem_of_getElem? hi)
   · cases hx
 have q : SvS ga sv lb S (List.replicate N (zY (max sec.toNat 9))) := ⟨a1, by rw [List.length_replicate, hS], hat, b2, λ B hB x hx => ⟨b3 B hB x hx, a3 B hB x hx⟩, a4⟩
 refine sR hE (hrV hV hsv) (args' := [.int .i64 (.ofNat 0), .int .i64 (.ofNat w)]) rfl f1 λ A1 u1 gb s1 r1 y1 => ?_
 refine sR hE r1 (args' := [.int .i64 (.ofNat w), .int .i64 (.ofNat s)]) rfl f2 λ A2 u2 gc s2 r2 y2 => ?_
 refine sR hE r2 (aV.2 ⟨_, _, oQ s2.le _ _ y1, aV.2 ⟨_, _, y2, rfl, rfl⟩, rfl⟩) f3 λ A3 u3 gd s3 r3 y3 => ?_
 have hm3 : v3 = .ptr m 0 := by
   have : rdCell (k3.push (arB v3 w)).get k3.size 1 = some v3 := by
     unfold arB rdCell; rw [H.get_push, if_pos rfl]
     rfl
   rw [this] at hm; cases hm; rfl
 subst hm3; obtain ⟨pm, d3, rfl⟩ := gZ y3; have hA3 : A3 2 = some sv := s3.le _ _ (s2.le _ _ (s1.le _ _ (by unfold A0; rw [if_pos rfl])))
 repeat' (first | with_reducible refine sT ?_ | with_reducible refine sF ?_ | with_reducible refine g1 ?_ | with_reducible refine g2 ?_ | with_reducible refine g3 ?_ | with_reducible refine g4 ?_ | ((with_reducible apply sV); first | exact aD.read (by assumption) (by rfl) | exact aD.readN (by assumption) (Nat.le_of_ble_eq_true rfl) | exact fZ (by omega) | exact gE (by omega) | exact gtT (by omega) | exact gtF (by omega) | exact leT (by omega) | exact gF (by omega) | exact geT (by omega) | exact geF (by omega) | exact gG (by omega) | exact gH (by omega) | exact fS (by omega) | exact fY (by omega) | exact aJ (by omega) | exact cS (by omega) | exact aH (by omega) (by omega) | exact aI (by omega) _ | exact aO _ _ _ _ | exact aN _ _ _ _ | exact aM _ _ _ | exact rfl) | exact W.ret ⟨rfl, rfl⟩ | with_reducible refine W.ret ?_)
 refine sXp ?_; refine W.ret ?_; have ho : OR V A3 (arB (.ptr m 0) w) (some (.blk ⟨19, 19, false, true, Tr.ofL (.ptr sv 0 :: .ptr pm 0 :: .int .i64 (.ofNat w) :: List.replicate 16 (.int .i64 (.ofNat 0)))⟩)) :=
   ⟨rfl, rfl, rfl, rfl, lK (aV.2 ⟨_, _, iE hA3, aV.2 ⟨_, _, iE d3, rfl, rfl⟩, rfl⟩)⟩
 obtain ⟨r4, s4, e4⟩ := r3.push ho; have st : wO Ob (A0 sv) ga (A3.ins k3.size gd.size) (gd.push (.blk ⟨19, 19, false, true, Tr.ofL (.ptr sv 0 :: .ptr pm 0 :: .int .i64 (.ofNat w) :: List.replicate 16 (.int .i64 (.ofNat 0)))⟩)) := s1.trans (s2.trans (s3.trans s4)); have nr : ∀ c, ¬ rng Ob (A0 sv) c := λ c ⟨b, hb, ho⟩ => by
   unfold A0 at hb; split at hb
   · rename_i e; exact ho (by rw [e]; exact (by decide : 2 < 16))
   · cases hb
 have za := a5.size; have hge : ∀ c, svF S sv lb c -> h.size <= c := λ c hc => by
   rcases hc with rfl | rfl | ⟨B, hB, hc⟩
   · exact hle
   · omega
   · have := b3 B hB c hc; omega
 refine ⟨_, gd.size, pm, sv, lb, S, rfl, hS, ⟨r4, e4, s4.le _ _ d3, s4.le _ _ hA3, q.off st.off λ c _ hr => nr c hr, λ c hc hf => ?_⟩, ⟨Nat.le_trans za st.size, λ c hc => ?_⟩, λ c hc => ?_, hge⟩
 · rcases uG st hc with h | h
   · exact nr c h
   · have := q.in_ hf; omega
 · exact (st.fr c (by omega) λ b hb => by
     unfold A0 at hb; split at hb
     · rename_i e; rw [e]; exact (by decide : 2 < 16)
     · cases hb).trans (a5.get c hc)
 · rcases uG st hc with h | h
   · exact absurd h (nr c)
   · omega
end Go.Proofs.YthpciaidbgjoeaaGreat
end
