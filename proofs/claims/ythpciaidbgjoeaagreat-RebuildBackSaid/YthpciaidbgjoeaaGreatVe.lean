/- Specs. No condition beyond the theorems' own. -/
import Derived.Test.YthpciaidbgjoeaaGreatVd
set_option linter.unusedVariables false
set_option linter.unusedSimpArgs false
namespace Go.Proofs.YthpciaidbgjoeaaGreat
open Go.DI
section
variable {T : Nat -> Ln} {N : Nat -> Nat} {n lost t d : Nat} {hs h' : H} {A : Re} {g g' : H} {pr pa pm sv lb z : Nat} {S : List cZ} {X : List eX} {dv u : DV} {l : List (Ln)}
theorem bGL {E : aQ} (r : iX (Vt N) hs 47 46 A g pa pm sv lb S X) : W (S18 E [.ptr pa 0] g) λ v g' => v = .ptr g.size 0 /\ lM N hs A g' g.size (.negSucc 0) pa pm sv lb S X /\ aX g g' := by
 show W (aRM E (.ptr pa 0) g) _; unfold aRM
 repeat' (first | (with_reducible first | refine sT ?_ | refine sF ?_ | refine g1 ?_ | refine g2 ?_ | refine g3 ?_ | refine g4 ?_) | ((with_reducible apply sV); exact dF) | exact W.ret ⟨rfl, rfl⟩ | with_reducible refine W.ret ?_)
 refine sX λ ga z1 k1 o1 => ?_
 repeat' (first | (with_reducible first | refine sT ?_ | refine sF ?_ | refine g1 ?_ | refine g2 ?_ | refine g3 ?_ | refine g4 ?_) | ((with_reducible apply sV); exact dF) | exact W.ret ⟨rfl, rfl⟩ | with_reducible refine W.ret ?_)
 exact ⟨rfl, ⟨r.grown k1, o1, λ h => by have := oS r.hr h; omega, λ h => by have := r.q.in_ h; omega⟩, k1⟩
theorem bQK {E : aQ} (hE : E 33 = some (S33 E)) (r : iX (Vt N) hs 47 46 A g pa pm sv lb S X) (hS : S.length = 5) {ls : Nat -> List Fr} (hX : kS X ls (λ _ => false) (λ i => if i = lost then true else false)) (hd : d < 5) :
   W (S11 E [.ptr sv 0, .int .i64 (.ofNat d), .bool true] g) λ v g' => ∃ X', iX (Vt N) hs 47 46 A g' pa pm sv lb S X' /\ kS X' ls (λ i => decide (i = d) && !decide (d = lost)) (λ i => if i = lost then true else false) /\ Mv S sv lb A g A g' := by
 obtain ⟨B, hB⟩ : ∃ B, S[d]? = some B := ⟨_, List.getElem?_eq_getElem (by omega)⟩
 obtain ⟨x, x1, x2, x3, x4⟩ := hX d hd; by_cases e : d = lost
 · subst e; have hl : x.ls = true := x3.trans (if_pos rfl); have hA := r.q.at_ d B _ hB x1; obtain ⟨c, o, f, nn⟩ := hA; rw [hl] at o; have bA : ∀ args m, aB E 33 args m = S33 E args m := λ args m => aT hE args m
   show W (aGi E (.ptr sv 0) (.int .i64 (.ofNat d)) (.bool true) g) _; unfold aGi; refine sN bA (vS r.q.svs (qY hB)) ?_
   rintro _ gg ⟨rfl, rfl⟩
   repeat' (first | (with_reducible first | refine sT ?_ | refine sF ?_ | refine g1 ?_ | refine g2 ?_ | refine g3 ?_ | refine g4 ?_) | with_reducible refine g5 ?_ | ((with_reducible apply sV); first | exact pickT _ _ | exact pickF _ _ | exact dF) | exact W.ret ⟨rfl, rfl⟩ | with_reducible refine W.ret ?_)
   refine ⟨X, r, hX.congr λ i _ => ⟨rfl, by simp, rfl⟩, .refl _ _ _ _ _⟩
 · have hl : x.ls = false := x3.trans (if_neg e); refine W.mono (aUf r.q hE hB x1 hl true) ?_
   rintro v g' ⟨rfl, k, q⟩
   refine ⟨_, r.put k q, λ j hj => ?_, .put k⟩
   by_cases ej : j = d
   · subst ej; exact ⟨{ x with dn := true }, by rw [List.getElem?_set, if_pos rfl, if_pos (List.getElem?_eq_some_iff.1 x1).1], by simp [e], x3, ⟨x4.M, x4.le, x4.L, x4.r, x4.ok⟩⟩
   · obtain ⟨y, y1, y2, y3, y4⟩ := hX j hj; exact ⟨y, by rw [List.getElem?_set, if_neg (λ h => ej h.symm)]; exact y1, y2.trans (by simp [ej]), y3, y4⟩
structure PoE (E : aQ) (N : Nat -> Nat) (T : Nat -> Ln) (n : Nat) : Prop where
 aw : E 17 = some vL
 rn : ∃ F, ∀ a b, aB E 18 a b = S18 F a b
 fl : ∀ {lost e : Nat} {hs h' : H} {A : Re} {g : H} {pr pa pm sv lb : Nat} {sp : Int} {S : List cZ} {X : List eX} {ls : Nat -> List Fr} {ds lo : Nat -> Bool} {l : DV}, lM N hs A g pr sp pa pm sv lb S X -> S.length = 5 -> kS X ls ds lo -> lost < 5 -> Stg h' 47 46 -> Cmd Eb 5 e [.int .i64 (.ofNat lost)] 47 46 hs (.tup [.int .i64 (.ofNat 0), l]) h' ->
   W (aB E 19 [.ptr pr 0, .int .i64 (.ofNat lost)] g) λ v g' => v = .int .i64 (.ofNat 0) /\ ∃ A' X', lM N h' A' g' pr sp pa pm sv lb S X' /\ kS X' ls ds (λ i => if i = lost then true else lo i) /\ Mv S sv lb A g A' g'
 st : ∀ {e bl w : Nat} {op : Bool} {hs h' : H} {A : Re} {g : H} {pr pa pm sv lb : Nat} {sp : Int} {S : List cZ} {X : List eX}, lM N hs A g pr sp pa pm sv lb S X -> rdCell h'.get bl 0 = some (.int .i64 (.ofNat w)) -> Cmd Eb 6 e [] 47 46 hs (.tup [.int .i64 (.ofNat 0), .slc bl 0 2 2 op]) h' ->
   W (aB E 20 [.ptr pr 0] g) λ v g' => v = .tup [.int .i64 (.ofNat w), .int .i64 (.ofNat 0)] /\ ∃ A' gz, lM N h' A' g' pr (.ofNat w) pa pm sv lb S X /\ Mv S sv lb A g A' gz /\ qS pr gz g'
 lf : ∀ {lost t : Nat} {hs : H} {A : Re} {g : H} {pr pa pm sv lb : Nat} {S : List cZ} {X : List eX}, lost < 4 -> Rdg n lost hs -> BkT N T n lost t hs A g pr pa pm sv lb S X ->
   W (aB E 21 [.ptr pr 0] g) λ w g' => bM g.size g' w (eK ((List.range n).filter λ id => decide (t <= id))) /\ lM N hs A g' pr (.ofNat 4) pa pm sv lb S X /\ fJ (rng Ob A) g g'
 rd : ∀ {lost t id : Nat} {hs : H} {A : Re} {g : H} {pr pa pm sv lb : Nat} {S : List cZ} {X : List eX}, lost < 4 -> Rdg n lost hs -> BkT N T n lost t hs A g pr pa pm sv lb S X -> id < n ->
   W (aB E 12 [.ptr pa 0, .int .i64 (.ofNat id)] g) λ w g' => w = .tup [.str (T id), .int .i64 (.ofNat 0)] /\ BkT N T n lost t hs A g' pr pa pm sv lb S X /\ fJ (rng Ob A) g g'
 sp : ∀ {lost t : Nat} {hs : H} {A : Re} {g : H} {pr pa pm sv lb : Nat} {S : List cZ} {X : List eX}, lost < 4 -> Rdg n lost hs -> BkT N T n lost t hs A g pr pa pm sv lb S X -> t <= n ->
   W (aB E 23 [.ptr pr 0, .int .i64 (.ofNat 1)] g) λ v g' => v = .tup [.int .i64 (.ofNat (min (n - t) 1)), .int .i64 (.ofNat 0)] /\ ∃ X', BkT N T n lost (min (t + 1) n) hs A g' pr pa pm sv lb S X' /\ Mv S sv lb A g A g'
 fi : ∀ {lost : Nat} {hs hE : H} {A : Re} {g : H} {pr pa pm sv lb : Nat} {S : List cZ} {X : List eX} {l : DV}, lost < 4 -> Rdg n lost hs -> BkT N T n lost n hs A g pr pa pm sv lb S X -> Cmd Eb 7 3 [] 47 46 hs (.tup [.int .i64 (.ofNat 0), l]) hE ->
   W (aB E 22 [.ptr pr 0] g) λ v g' => v = .int .i64 (.ofNat 0) /\ ∃ A', BkT N T n lost n (gcH 47 hE) A' g' pr pa pm sv lb S X /\ Mv S sv lb A g A' g'
 sv : ∃ F, ∀ a b, aB E 10 a b = S10 F a b
 dn : ∃ F, F 33 = some (S33 F) /\ ∀ a b, aB E 11 a b = S11 F a b
 ra : ∀ {lost d id : Nat} {hs : H} {A : Re} {g : H} {pa pm sv lb : Nat} {S : List cZ} {X : List eX}, lost < 4 -> d < 5 -> id < n -> Rdg n lost hs -> S.length = 5 -> kS X (lsS (LfT T) n lost n) (λ i => decide (i = d) && !decide (d = lost)) (λ i => if i = lost then true else false) -> iX (Vt N) hs 47 46 A g pa pm sv lb S X ->
   W (aB E 12 [.ptr pa 0, .int .i64 (.ofNat id)] g) λ w g' => w = .tup [.str (T id), .int .i64 (.ofNat 0)] /\ iX (Vt N) hs 47 46 A g' pa pm sv lb S X /\ fJ (rng Ob A) g g'
structure Own (T : Nat -> Ln) (n : Nat) (l : List (Ln)) (A : Re) (S : List cZ) (sv lb z : Nat) (g : H) (dv u : DV) : Prop where
 q : Pt A S sv lb z g dv (dR l)
 i : Pt A S sv lb z g u (eK (List.range n))
 z : z <= g.size
theorem Own.mv {A' : Re} (o : Own T n l A S sv lb z g dv u) (m : Mv S sv lb A g A' g') : Own T n l A' S sv lb z g' dv u := ⟨o.q.mv m o.z, o.i.mv m o.z, Nat.le_trans o.z m.off.size⟩
theorem Own.lenI (o : Own T n l A S sv lb z g dv u) : aO u = some (.int .i64 (.ofNat n)) := by
 rw [o.i.r.len]; unfold eK; rw [List.length_map, List.length_range]
theorem Own.atI (o : Own T n l A S sv lb z g dv u) {j : Nat} (hj : j < n) : ∃ b k, bY 1 u (.int .i64 (.ofNat j)) = some (.ptr b k) /\ aF g.get (.ptr b k) = some (.int .i64 (.ofNat j)) :=
 o.i.r.at (by unfold eK; rw [List.getElem?_map, List.getElem?_range hj]; rfl) .i64
theorem Own.atT (o : Own T n l A S sv lb z g dv u) (hT : ∀ j, j < n -> l[j]? = some (T j)) {j : Nat} (hj : j < n) : ∃ b k, bY 1 dv (.int .i64 (.ofNat j)) = some (.ptr b k) /\ aF g.get (.ptr b k) = some (.str (T j)) :=
 o.q.r.at (by unfold dR; rw [List.getElem?_map, hT j hj]; rfl) .i64
theorem bBg {E : aQ} (P : PoE E N T n) (n6 : n <= 6) (hT : ∀ j, j < n -> l[j]? = some (T j)) (hl : lost < 4) (R : Rdg n lost hs) {i4 : DV -> H -> aL} {r15 : DV} {Q : DV -> H -> Prop} (hend : ∀ g, BkT N T n lost t hs A g pr pa pm sv lb S X -> Own T n l A S sv lb z g dv u -> W (aYD E i4 u (.ptr pr 0) r15 g) Q) :
   ∀ (k i f : Nat) (g : H), i + k = n -> BkT N T n lost t hs A g pr pa pm sv lb S X -> Own T n l A S sv lb z g dv u -> W (aTx E i4 dv (.ptr pa 0) u (.ptr pr 0) r15 (f + (k + 1)) (.int .i64 (.ofNat i)) g) Q := by
 intro k
 induction k with
 | zero =>
   intro i f g hk b o; have hi : i = n := by omega
   subst hi; have hl' := o.lenI; show W (bAz E i4 dv (.ptr pa 0) u (.ptr pr 0) r15 (aTx E i4 dv (.ptr pa 0) u (.ptr pr 0) r15 f) _ g) _; unfold bAz
   repeat' (first | (with_reducible first | refine sT ?_ | refine sF ?_ | refine g1 ?_ | refine g2 ?_ | refine g3 ?_ | refine g4 ?_) | ((with_reducible apply sV); first | exact hl' | exact dF) | exact W.ret ⟨rfl, rfl⟩ | with_reducible refine W.ret ?_)
   exact hend g b o
 | succ k ih =>
   intro i f g hk b o; have hi : i < n := by omega
   have hl' := o.lenI; obtain ⟨b1, k1, c1, c2⟩ := o.atI hi; obtain ⟨_, ga, e1, rfl, b2, k2⟩ := P.rd hl R b hi; have o2 := o.mv (.rd k2); obtain ⟨b3, k3, d1, d2⟩ := o2.atT hT hi; show W (bAz E i4 dv (.ptr pa 0) u (.ptr pr 0) r15 (aTx E i4 dv (.ptr pa 0) u (.ptr pr 0) r15 (f + (k + 1))) _ g) _; unfold bAz
   repeat' (first | (with_reducible first | refine sT ?_ | refine sF ?_ | refine g1 ?_ | refine g2 ?_ | refine g3 ?_ | refine g4 ?_) | refine sW e1 ?_ | with_reducible refine g5 ?_ | ((with_reducible apply sV); first | exact hl' | exact c1 | exact c2 | exact d1 | exact d2 | exact sneF _ | exact pickT _ _ | exact pickF _ _ | exact dF) | exact W.ret ⟨rfl, rfl⟩ | with_reducible refine W.ret ?_)
   exact ih (i + 1) f ga (by omega) b2 o2
theorem bBh {E : aQ} (P : PoE E N T n) (n6 : n <= 6) (hT : ∀ j, j < n -> l[j]? = some (T j)) (hl : lost < 4) (R : Rdg n lost hs) {dw : DV} {Q : DV -> H -> Prop} (hend : ∀ g X, BkT N T n lost n hs A g pr pa pm sv lb S X -> Own T n l A S sv lb z g dv u -> W (aTA E dv dw (.ptr pa 0) u (.ptr pr 0) g) Q) :
   ∀ (k i f : Nat) (g : H) (X : List eX), i + k = n + 1 -> BkT N T n lost (min i n) hs A g pr pa pm sv lb S X -> Own T n l A S sv lb z g dv u -> W (aAl E dv dw (.ptr pa 0) u (.ptr pr 0) (f + (k + 1)) (.int .i64 (.ofNat i)) g) Q := by
 intro k
 induction k with
 | zero =>
   intro i f g X hk b o; have hi : i = n + 1 := by omega
   subst hi; have hl' := o.lenI; show W (bAA E dv dw (.ptr pa 0) u (.ptr pr 0) (aAl E dv dw (.ptr pa 0) u (.ptr pr 0) f) _ g) _; unfold bAA
   repeat' (first | (with_reducible first | refine sT ?_ | refine sF ?_ | refine g1 ?_ | refine g2 ?_ | refine g3 ?_ | refine g4 ?_) | ((with_reducible apply sV); first | exact hl' | exact dF) | exact W.ret ⟨rfl, rfl⟩ | with_reducible refine W.ret ?_)
   rw [show min (n + 1) n = n from by omega] at b
   exact hend g X b o
 | succ k ih =>
   intro i f g X hk b o; have hi : i <= n := by omega
   have hl' := o.lenI; show W (bAA E dv dw (.ptr pa 0) u (.ptr pr 0) (aAl E dv dw (.ptr pa 0) u (.ptr pr 0) (f + (k + 1))) _ g) _; unfold bAA
   repeat' (first | (with_reducible first | refine sT ?_ | refine sF ?_ | refine g1 ?_ | refine g2 ?_ | refine g3 ?_ | refine g4 ?_) | ((with_reducible apply sV); first | exact hl' | exact dF) | exact W.ret ⟨rfl, rfl⟩ | with_reducible refine W.ret ?_)
   have := bBg P n6 hT hl R (i4 := aAl E dv dw (.ptr pa 0) u (.ptr pr 0) (f + (k + 1))) (r15 := .int .i64 (.ofNat i)) (Q := Q) (t := min i n) (λ ga b1 o1 => ?_) n 0 (aK - (n + 1)) g (by omega) b o
   · rw [show aK - (n + 1) + (n + 1) = aK from by unfold aK; omega] at this
     exact this
   · obtain ⟨_, gb, e2, rfl, X', b2, m2⟩ := P.sp hl R b1 (by omega)
     have o2 := o1.mv m2; have hl2 := o2.lenI; rw [show min i n = i from by omega] at e2 b2
     unfold aYD bDS
     repeat' (first | (with_reducible first | refine sT ?_ | refine sF ?_ | refine g1 ?_ | refine g2 ?_ | refine g3 ?_ | refine g4 ?_) | refine sW e2 ?_ | with_reducible refine g5 ?_ | ((with_reducible apply sV); first | exact hl2 | exact pickT _ _ | exact pickF _ _ | exact dF) | exact W.ret ⟨rfl, rfl⟩ | with_reducible refine W.ret ?_)
     exact ih (i + 1) f gb X' (by omega) b2 o2
theorem bBf {E : aQ} (P : PoE E N T n) (n6 : n <= 6) (hT : ∀ j, j < n -> l[j]? = some (T j)) (hl : lost < 4) (hd : d < 5) (R : Rdg n lost hs) (hS : S.length = 5) (hX : kS X (lsS (LfT T) n lost n) (λ i => decide (i = d) && !decide (d = lost)) (λ i => if i = lost then true else false)) :
   ∀ (k i f : Nat) (g : H), i + k = n -> iX (Vt N) hs 47 46 A g pa pm sv lb S X -> Own T n l A S sv lb z g dv u -> W (aTw E dv (.ptr pa 0) u (f + (k + 1)) (.int .i64 (.ofNat i)) g) λ v _ => v = .bool true := by
 intro k
 induction k with
 | zero =>
   intro i f g hk r o; have hi : i = n := by omega
   subst hi; have hl' := o.lenI; show W (bAy E dv (.ptr pa 0) u (aTw E dv (.ptr pa 0) u f) _ g) _; unfold bAy bDR
   repeat' (first | (with_reducible first | refine sT ?_ | refine sF ?_ | refine g1 ?_ | refine g2 ?_ | refine g3 ?_ | refine g4 ?_) | rw [vC P.aw] | ((with_reducible apply sV); first | exact hl' | exact dF) | exact W.ret ⟨rfl, rfl⟩ | with_reducible refine W.ret ?_)
   exact ⟨.bool true, g, rfl, rfl⟩
 | succ k ih =>
   intro i f g hk r o; have hi : i < n := by omega
   have hl' := o.lenI; obtain ⟨b1, k1, c1, c2⟩ := o.atI hi; obtain ⟨_, ga, e1, rfl, r2, k2⟩ := P.ra hl hd hi R hS hX r; have o2 := o.mv (.rd k2); obtain ⟨b3, k3, d1, d2⟩ := o2.atT hT hi; show W (bAy E dv (.ptr pa 0) u (aTw E dv (.ptr pa 0) u (f + (k + 1))) _ g) _; unfold bAy
   repeat' (first | (with_reducible first | refine sT ?_ | refine sF ?_ | refine g1 ?_ | refine g2 ?_ | refine g3 ?_ | refine g4 ?_) | refine sW e1 ?_ | with_reducible refine g5 ?_ | ((with_reducible apply sV); first | exact hl' | exact c1 | exact c2 | exact d1 | exact d2 | exact sneF _ | exact pickT _ _ | exact pickF _ _ | exact dF) | exact W.ret ⟨rfl, rfl⟩ | with_reducible refine W.ret ?_)
   exact ih (i + 1) f ga (by omega) r2 o2
theorem Pt.ids {j : Nat} (i : Ids A S sv lb z g u j) {z' : Nat} (hz : g.size <= z') : Pt A S sv lb z' g u (eK (List.range j)) :=
 ⟨i.row, λ b o k c op e => by
   rcases i.o with ⟨h1, _⟩ | ⟨b', m, pl, t, h1, h2, h3, h4, _⟩
   · rw [h1] at e; cases e
   · have h5 := h4; rw [h4] at e; cases e; obtain ⟨x1, x2, x3⟩ := i.p _ _ h5; exact ⟨x1, x2, by omega⟩⟩
theorem Pt.up {L : List DV} {v : DV} (q : Pt A S sv lb z g v L) {z' : Nat} (h : z <= z') : Pt A S sv lb z' g v L := ⟨q.r, λ b o k c op e => by
 obtain ⟨h1, h2, h3⟩ := q.p b o k c op e; exact ⟨h1, h2, by omega⟩⟩
theorem end3 {E : aQ} (P : PoE E N T n) (n6 : n <= 6) (hT : ∀ j, j < n -> l[j]? = some (T j)) (hl : lost < 4) (R : Rdg n lost hs) {hD : H} (hfi : ∃ l hE, Cmd Eb 7 3 [] 47 46 hs (.tup [.int .i64 (.ofNat 0), l]) hE /\ hD = gcH 47 hE) (R2 : Rdg n lost hD) (down : Int) (b : BkT N T n lost n hs A g pr pa pm sv lb S X) (o : Own T n l A S sv lb z g dv u) :
   W (aTA E dv (.int .i64 down) (.ptr pa 0) u (.ptr pr 0) g) λ v _ => v = .bool true := by
 obtain ⟨l0, hE, c, rfl⟩ := hfi; obtain ⟨d, hd, x1, _, x2, x3⟩ := aWC down (n := 5) (by decide) (by decide)
 obtain ⟨_, ga, e1, rfl, A', b1, m1⟩ := P.fi hl R b c; have o1 := o.mv m1; obtain ⟨F, hsv⟩ := P.sv; obtain ⟨G, hat, hdn⟩ := P.dn; have l0 := b1.rb.ar.c0 R2.st.c0; have e2 : W (S10 F [.ptr pa 0] ga) λ v g' => v = .ptr sv 0 /\ g' = ga := by
   show W (aGj F (.ptr pa 0) ga) _; unfold aGj
   repeat' (first | (with_reducible first | refine sT ?_ | refine sF ?_ | refine g1 ?_ | refine g2 ?_ | refine g3 ?_ | refine g4 ?_) | ((with_reducible apply sV); first | exact l0 | exact dF) | exact W.ret ⟨rfl, rfl⟩ | with_reducible refine W.ret ?_)
 obtain ⟨_, gb, e2, rfl, rfl⟩ := e2; obtain ⟨w, gc, e3, X', ar3, hX3, m3⟩ := bQK hat b1.rb.ar b1.s5 b1.x hd; have o3 := o1.mv m3; unfold aTA
 repeat' (first | (with_reducible first | refine sT ?_ | refine sF ?_ | refine g1 ?_ | refine g2 ?_ | refine g3 ?_ | refine g4 ?_) | refine sW e1 ?_ | rw [hsv] | refine sW e2 ?_ | rw [hdn] | refine sW e3 ?_ | ((with_reducible apply sV); first | exact x1 | exact x2 | exact x3 | exact dF) | exact W.ret ⟨rfl, rfl⟩ | with_reducible refine W.ret ?_)
 have := bBf P n6 hT hl hd R2 b1.s5 hX3 n 0 (aK - (n + 1)) gc (by omega) ar3 o3
 rw [show aK - (n + 1) + (n + 1) = aK from by unfold aK; omega] at this
 exact this
theorem end1 {E : aQ} (P : PoE E N T n) (n6 : n <= 6) (hl' : l.length = n) (hT : ∀ j, j < n -> l[j]? = some (T j)) (hS : S.length = 5) (lost down : Int) (hp : ∀ x, x < 4 -> ∃ hR hD, Pos n x hs hR hD) (r : iX (Vt N) hs 47 46 A g pa pm sv lb S X) (hX : kS X (kQ (LfT T) n) (λ _ => false) (λ _ => false)) (q : Pt A S sv lb z g dv (dR l)) (hz : z <= g.size) (ids : Ids A S sv lb z g u n) :
   W (aTB E dv (.int .i64 lost) (.int .i64 down) (.ptr pa 0) u g) λ v _ => v = .bool true := by
 obtain ⟨x, hx, x1, _, x2, x3⟩ := aWC lost (n := 4) (by decide) (by decide)
 obtain ⟨hR, hD, ps⟩ := hp x hx; obtain ⟨l1, hF, cA, stF, b, op, hSw, cB, hb, rfl⟩ := ps.fl; obtain ⟨RN, rn⟩ := P.rn; obtain ⟨_, ga, e1, rfl, t1, k1⟩ := bGL (E := RN) r; obtain ⟨_, gb, e2, rfl, A2, X2, t2, h2, m2⟩ := P.fl t1 hS hX (by omega) stF cA
 obtain ⟨_, gc, e3, rfl, A3, gz, t3, m3, k3⟩ := P.st t2 hb cB; have o1 : Own T n l A S sv lb g.size ga dv u := ⟨(q.up hz).mv (.grown k1) (Nat.le_refl _), (Pt.ids ids (Nat.le_refl _)).mv (.grown k1) (Nat.le_refl _), k1.size⟩; have o2 := o1.mv (m2.trans m3); have k3o := k3.off (F := λ c => c = g.size) rfl
 have o3 : Own T n l A3 S sv lb g.size gc dv u := ⟨o2.q.off k3o λ c h => by omega, o2.i.off k3o λ c h => by omega, Nat.le_trans o2.z (by rw [k3.size]; exact Nat.le_refl _)⟩
 have b3 : BkT N T n x 0 (gcH 47 hSw) A3 gc g.size pa pm sv lb S X2 := ⟨t3.gc, hS, h2.congr λ i hi => ⟨aUS (LfT T) n x hi, rfl, rfl⟩⟩
 obtain ⟨w, gd, e4, o4, t4, k4⟩ := P.lf hx ps.rd b3; have b4 : BkT N T n x 0 (gcH 47 hSw) A3 gd g.size pa pm sv lb S X2 := ⟨t4, hS, b3.x⟩; have ow4 := o3.mv (.rd k4); have hlw : aO w = some (.int .i64 (.ofNat n)) := by
   rw [o4.len]; unfold eK; rw [List.length_map, oY]; rfl
 have hli := ow4.lenI; unfold aTB
 repeat' (first | (with_reducible first | refine sT ?_ | refine sF ?_ | refine g1 ?_ | refine g2 ?_ | refine g3 ?_ | refine g4 ?_) | rw [rn] | refine sW e1 ?_ | refine sW e2 ?_ | refine sW e3 ?_ | with_reducible refine g5 ?_ | refine sW e4 ?_ | ((with_reducible apply sV); first | exact x1 | exact x2 | exact x3 | exact pickT _ _ | exact pickF _ _ | exact hlw | exact hli | exact dF) | exact W.ret ⟨rfl, rfl⟩ | with_reducible refine W.ret ?_)
 have := bBh P n6 hT hx ps.rd (dw := .int .i64 down) (Q := λ v _ => v = .bool true) (λ g X b o => end3 P n6 hT hx ps.rd ps.fi ps.rd2 down b o) (n + 1) 0 (aK - (n + 2)) gd X2 (by omega) (by rw [Nat.zero_min]; exact b4) ow4
 rw [show aK - (n + 2) + (n + 1 + 1) = aK from by unfold aK; omega] at this
 exact this
end
end Go.Proofs.YthpciaidbgjoeaaGreat
