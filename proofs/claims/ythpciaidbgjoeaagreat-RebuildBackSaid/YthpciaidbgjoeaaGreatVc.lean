/- Specs. No condition beyond the theorems' own. -/
import Derived.Test.YthpciaidbgjoeaaGreatVb
set_option linter.unusedVariables false
set_option linter.unusedSimpArgs false
namespace Go.Proofs.YthpciaidbgjoeaaGreat
open Go.DI
theorem pM {f : Nat} {s : aQ -> bC} (hB : base f = none) (hT : Tr.at_ table f = some s) (k : Nat) : ∀ a b, aB (EL (k + 1)) f a b = s (EL k) a b := λ a b => aT (cO hB hT k) a b
theorem elp {f : Nat} {F : bC} (hB : base f = some F) (k : Nat) : aB (EL (k + 1)) f = F := by funext a b; exact aT (aEf hB k) a b
structure Txt (n : Nat) (T : Nat -> Ln) (N : Nat -> Nat) : Prop where
 n6 : n <= 6
 N1 : ∀ j, 1 <= N j /\ N j <= 65536
 ok : ∀ j, j < n -> aP (T j) = true /\ 1 <= (T j).length /\ (T j).length <= 1536 /\ N j = (T j).length
def LfT (T : Nat -> Ln) (id i : Nat) : Ln := (tT (T id) 4).getD i []
structure BkT (N : Nat -> Nat) (T : Nat -> Ln) (n lost t : Nat) (hs : H) (A : Re) (g : H) (pr pa pm sv lb : Nat) (S : List cZ) (X : List eX) : Prop where
 rb : lM N hs A g pr (.ofNat 4) pa pm sv lb S X
 s5 : S.length = 5
 x : kS X (lsS (LfT T) n lost t) (λ _ => false) (λ i => if i = lost then true else false)
section
variable {N : Nat -> Nat} {T : Nat -> Ln} {n lost t : Nat} {hs h' : H} {A : Re} {g g' : H} {pr pa pm sv lb : Nat} {S : List cZ} {X : List eX}
theorem bHg (x : Txt n T N) {id : Nat} (h : id < n) : LOk (N id) (T id) (LfT T id) := by
 obtain ⟨h1, h2, h3, h4⟩ := x.ok id h; rw [h4]; exact aUU h1 h3
theorem bOE (x : Txt n T N) (m : Nat) : aQG N (EL (m + 62)) (EL (m + 62)) (EL (m + 61)) (EL (m + 60)) where
 rF := jE x.N1 (m + 2)
 mF := ⟨_, pM (s := S41) (by kernel_rfl) (by kernel_rfl) (m + 61)⟩
 lo := aCl (m + 60)
 as1 := pM (s := S39) (by kernel_rfl) (by kernel_rfl) (m + 61)
 fr := pM (s := S68) (by kernel_rfl) (by kernel_rfl) (m + 60)
 rK := jE x.N1 m
 gt := elp (by kernel_rfl) (m + 59)
theorem bGI (x : Txt n T N) (m : Nat) : aQG N (EL (m + 63)) (EL (m + 62)) (EL (m + 61)) (EL (m + 60)) where
 rF := jE x.N1 (m + 3)
 mF := ⟨_, pM (s := S41) (by kernel_rfl) (by kernel_rfl) (m + 62)⟩
 lo := aCl (m + 61)
 as1 := pM (s := S39) (by kernel_rfl) (by kernel_rfl) (m + 61)
 fr := pM (s := S68) (by kernel_rfl) (by kernel_rfl) (m + 60)
 rK := jE x.N1 m
 gt := elp (by kernel_rfl) (m + 59)
theorem rds (x : Txt n T N) (hl : lost < 4) (R : Rdg n lost hs) (s : BkT N T n lost t hs A g pr pa pm sv lb S X) {id : Nat} (hid : id < n) : RdS hs S X (lsS (LfT T) n lost t) (λ _ => false) (λ i => if i = lost then true else false) lost id (LfT T id) (dnT lost t id) :=
 ⟨R.st, by have := x.n6; omega, R.str id hid, λ i hi => R.srv id i hid hi, s.s5, s.x, aOJ (LfT T) hl hid⟩
theorem aOw (x : Txt n T N) {ls : Nat -> List Fr} {ds lo dn : Nat -> Bool} {id : Nat} (hid : id < n) (s : RdS hs S X ls ds lo lost id (LfT T id) dn) (h2 : (iS dn 4).length < 2) (r : iX (Vt N) hs 47 46 A g pa pm sv lb S X) (m : Nat) :
   W (aB (EL (m + 65)) 12 [.ptr pa 0, .int .i64 (.ofNat id)] g) λ w g' => w = .tup [.str (T id), .int .i64 (.ofNat 0)] /\ iX (Vt N) hs 47 46 A g' pa pm sv lb S X /\ fJ (rng Ob A) g g' := by
 rw [pM (s := S12) (by kernel_rfl) (by kernel_rfl) (m + 64)]
 have := bOD (bGI x m) (pM (s := S34) (by kernel_rfl) (by kernel_rfl) (m + 63)) (pM (s := S35) (by kernel_rfl) (by kernel_rfl) (m + 63)) (pM (s := S36) (by kernel_rfl) (by kernel_rfl) (m + 62)) (aPa (m + 60)) (bBX (m + 60)) s (x.N1 id).2 (bHg x hid) r
 rw [if_neg (by omega)] at this
 exact this
theorem bCY (x : Txt n T N) (hl : lost < 4) (R : Rdg n lost hs) (s : BkT N T n lost t hs A g pr pa pm sv lb S X) {id : Nat} (hid : id < n) (m : Nat) :
   W (aB (EL (m + 65)) 12 [.ptr pa 0, .int .i64 (.ofNat id)] g) λ w g' => w = .tup [.str (T id), .int .i64 (.ofNat 0)] /\ BkT N T n lost t hs A g' pr pa pm sv lb S X /\ fJ (rng Ob A) g g' := by
 refine W.mono (aOw x hid (rds x hl R s hid) (by rw [aOD]; split <;> simp) s.rb.ar m) ?_
 rintro w g' ⟨rfl, a, k⟩
 exact ⟨rfl, ⟨s.rb.rd k a, s.s5, s.x⟩, k⟩
theorem aPn (x : Txt n T N) (hl : lost < 4) (R : Rdg n lost hs) (s : BkT N T n lost t hs A g pr pa pm sv lb S X) {id : Nat} (hid : id < n) (m : Nat) :
   ∀ g, iX (Vt N) hs 47 46 A g pa pm sv lb S X -> W (aB (EL (m + 64)) 15 [.ptr pa 0, .int .i64 (.ofNat id)] g) λ w g' => bM g.size g' w (eK (if decide (t <= id) then [wA lost id] else [])) /\ iX (Vt N) hs 47 46 A g' pa pm sv lb S X /\ fJ (rng Ob A) g g' := λ g0 r => by
 rw [pM (s := S15) (by kernel_rfl) (by kernel_rfl) (m + 63)]
 have := bPr (bOE x m) (pM (s := S34) (by kernel_rfl) (by kernel_rfl) (m + 62)) (pM (s := S36) (by kernel_rfl) (by kernel_rfl) (m + 62)) (rds x hl R s hid) (x.N1 id).2 (λ i hi => ((bHg x hid).ok i hi).2) r
 rw [aOD] at this; exact this
theorem aKr (x : Txt n T N) (hl : lost < 4) (R : Rdg n lost hs) (s : BkT N T n lost t hs A g pr pa pm sv lb S X) {id : Nat} (hid : id < n) (m : Nat) :
   ∀ g, lM N hs A g pr (.ofNat 4) pa pm sv lb S X -> W (aB (EL (m + 65)) 43 [.ptr pr 0, .int .i64 (.ofNat id)] g) λ v g' => v = plR (decide (t <= id)) id (wA lost id) /\ lM N hs A g' pr (.ofNat 4) pa pm sv lb S X /\ fJ (rng Ob A) g g' := λ g0 r => by
 rw [pM (s := S43) (by kernel_rfl) (by kernel_rfl) (m + 64)]
 exact bGP (jE x.N1 (m + 4)) (pM (s := S41) (by kernel_rfl) (by kernel_rfl) (m + 63)) (pM (s := S72) (by kernel_rfl) (by kernel_rfl) (m + 63)) (pM (s := aEi) (by kernel_rfl) (by kernel_rfl) (m + 62)) (by have := x.n6; omega) (R.str id hid) R.st (decide (t <= id)) (aPn x hl R s hid m) r
theorem aHo (x : Txt n T N) (hl : lost < 4) (R : Rdg n lost hs) (s : BkT N T n lost t hs A g pr pa pm sv lb S X) (m : Nat) :
   W (aB (EL (m + 66)) 21 [.ptr pr 0] g) λ w g' => bM g.size g' w (eK ((List.range n).filter λ id => decide (t <= id))) /\ lM N hs A g' pr (.ofNat 4) pa pm sv lb S X /\ fJ (rng Ob A) g g' := by
 rw [pM (s := S21) (by kernel_rfl) (by kernel_rfl) (m + 65)]
 exact bPt (jE x.N1 (m + 5)) (pM (s := S41) (by kernel_rfl) (by kernel_rfl) (m + 64)) x.n6 R.lst R.st (λ id hid g r => aKr x hl R s hid m g r) s.rb
theorem oY (t : Nat) : ∀ n, ((List.range n).filter λ id => decide (t <= id)).length = n - t
 | 0 => by simp
 | n + 1 => by
   rw [qA, List.length_append, oY t n]; by_cases h : t <= n
   · simp [h]; omega
   · simp [h]; omega
theorem vY {t : Nat} : ∀ {n u : Nat} {l : Ln}, ((List.range n).filter λ id => decide (t <= id)) = u :: l -> u = t /\ t < n
 | 0, u, l, h => by simp at h
 | n + 1, u, l, h => by
   rw [qA] at h; cases e : (List.range n).filter λ id => decide (t <= id) with
   | nil =>
     have := oY t n; rw [e] at this h; simp at this; by_cases c : t <= n
     · simp [c] at h; omega
     · simp [c] at h
   | cons v k =>
     obtain ⟨rfl, h2⟩ := vY e; rw [e] at h; simp at h; omega
theorem bCZ (x : Txt n T N) (hl : lost < 4) (R : Rdg n lost hs) (s : BkT N T n lost t hs A g pr pa pm sv lb S X) (ht : t < n) (m : Nat) :
   ∀ g, lM N hs A g pr (.ofNat 4) pa pm sv lb S X -> W (aB (EL (m + 65)) 44 [.ptr pr 0, plR true t (wA lost t)] g) λ v g' => v = .int .i64 (.ofNat 0) /\ ∃ X', lM N hs A g' pr (.ofNat 4) pa pm sv lb S X' /\ kS X' (rL (lsS (LfT T) n lost t) 4 ⟨t, wA lost t, LfT T t (wA lost t)⟩) (λ _ => false) (λ i => if i = lost then true else false) /\ Mv S sv lb A g A g' := λ g0 r => by
 rw [pM (s := S44) (by kernel_rfl) (by kernel_rfl) (m + 64)]
 have sd := rds x hl R s ht; refine bPy (L := LfT T t) (dn := dnT lost t t) (ml := [wA lost t]) (aLL (jE x.N1 (m + 3)) (pM (s := S68) (by kernel_rfl) (by kernel_rfl) (m + 63)) (elp (by kernel_rfl) (m + 62)) sd.srv sd.st sd.s5 sd.x sd.g (λ c hc => r.ar.lt2 hc)) (jE x.N1 (m + 4)) (jE x.N1 (m + 3)) (pM (s := S41) (by kernel_rfl) (by kernel_rfl) (m + 63)) (pM (s := S31) (by kernel_rfl) (by kernel_rfl) (m + 63)) (elp (by kernel_rfl) (m + 62)) (aPa (m + 61)) (Nat.le_refl 1) ?_ sd (bHg x ht) (aMa _ _) ?_ ?_ rfl ?_ ?_ ?_ r
 · intro g1 r1; have := aPn x hl R s ht m g1 r1; rw [if_pos (by simp)] at this
   exact this
 · intro j _ hj; unfold dnT; rw [decide_eq_false hj]; rfl
 · rcases aFd (id := t) (aMa lost t) hl with ⟨_, h⟩ | ⟨h, _⟩
   · exact h
   · exact absurd rfl h
 · show (if 4 = lost then true else false) = false
   rw [if_neg (by omega)]
 · have := x.n6; unfold lsS; rw [if_pos rfl, List.length_map, List.length_range]; omega
 · unfold lsS; rw [if_pos rfl, mL, if_neg (λ h => Nat.lt_irrefl _ h.1)]
theorem bCX (x : Txt n T N) (hl : lost < 4) (R : Rdg n lost hs) (s : BkT N T n lost t hs A g pr pa pm sv lb S X) (ht : t <= n) (m : Nat) :
   W (aB (EL (m + 67)) 23 [.ptr pr 0, .int .i64 (.ofNat 1)] g) λ v g' => v = .tup [.int .i64 (.ofNat (min (n - t) 1)), .int .i64 (.ofNat 0)] /\ ∃ X', BkT N T n lost (min (t + 1) n) hs A g' pr pa pm sv lb S X' /\ Mv S sv lb A g A g' := by
 rw [pM (s := S23) (by kernel_rfl) (by kernel_rfl) (m + 66)]
 have := bOA (E := EL (m + 66)) (L := LfT T t) (lost := lost) (left := (List.range n).filter λ id => decide (t <= id)) (plv := plR true t (wA lost t)) s.rb (aHo x hl R s m) (λ u l e g r => by
   obtain ⟨rfl, h⟩ := vY e; have := aKr x hl R s h (m + 1) g r; rw [decide_eq_true (Nat.le_refl u)] at this; exact this) (λ u l e g r => by
   obtain ⟨rfl, h⟩ := vY e; exact bCZ x hl R s h (m + 1) g r) s.x (by rw [oY]; have := x.n6; omega)
 refine W.mono this ?_; rw [oY]
 rintro v g' ⟨rfl, X', r', mv, hX⟩
 refine ⟨rfl, X', ⟨r', s.s5, hX.congr λ i hi => ⟨?_, rfl, rfl⟩⟩, mv⟩
 cases e : (List.range n).filter λ id => decide (t <= id) with
 | nil =>
   have := oY t n; rw [e] at this; simp at this; show lsS (LfT T) n lost t i = _; rw [show min (t + 1) n = t from by omega]
 | cons u l =>
   obtain ⟨rfl, h⟩ := vY e; show rL (lsS (LfT T) n lost u) 4 ⟨u, wA lost u, LfT T u (wA lost u)⟩ i = _; rw [aUT, show min (u + 1) n = u + 1 from by omega]
theorem bIc (x : Txt n T N) (hl : lost < 4) (R : Rdg n lost hs) (s : BkT N T n lost n hs A g pr pa pm sv lb S X) {l : DV} {hE : H} (c : Cmd Eb 7 3 [] 47 46 hs (.tup [.int .i64 (.ofNat 0), l]) hE) (m : Nat) :
   W (aB (EL (m + 67)) 22 [.ptr pr 0] g) λ v g' => v = .int .i64 (.ofNat 0) /\ ∃ A', BkT N T n lost n (gcH 47 hE) A' g' pr pa pm sv lb S X /\ Mv S sv lb A g A' g' := by
 rw [pM (s := S22) (by kernel_rfl) (by kernel_rfl) (m + 66)]
 have hlf := aHo x hl R s m; have h0 : ((List.range n).filter λ id => decide (n <= id)) = [] := List.eq_nil_of_length_eq_zero (by rw [oY]; omega)
 rw [h0] at hlf; refine W.mono (bBJ (jE x.N1 (m + 6)) (jE x.N1 (m + 5)) (pM (s := S40) (by kernel_rfl) (by kernel_rfl) (m + 65)) (pM (s := S41) (by kernel_rfl) (by kernel_rfl) (m + 64)) hlf s.rb c) ?_
 rintro v g' ⟨rfl, A', r', mv⟩
 exact ⟨rfl, A', ⟨r'.gc, s.s5, s.x⟩, mv⟩
end
end Go.Proofs.YthpciaidbgjoeaaGreat
