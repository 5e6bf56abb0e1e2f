/- GapsHoles answers true of whatever boxes and point; plain Lean over the printed models, then the walk; conditions: they lie in the world. -/
import Derived.Test.YtjikkeajhogcdaaSIs
import Derived.Test.YtjikkeajhogcdaaSIn
import Derived.Test.YtjikkeajhogcdaaSWalkHoles
namespace Go.Proofs.Ytjikkeajhogcdaa
open Go.RowKit Go.Proofs.YtjikkeajhogcdaaW.PrintWords Go.Proofs.YtjikkeajhogcdaaW.PrintLast Go.Proofs.YtjikkeajhogcdaaW.PrintMore PGapsTells
theorem i64_and1023 (n : Int) : bits .and .i64 n 1023 = n % 1024 := by
  have h1 : (BitVec.ofInt 64 1023).toNat = 2 ^ 10 - 1 := by decide
  have key : (BitVec.ofInt 64 n &&& BitVec.ofInt 64 1023).toNat = (n % ((2 ^ 64 : Nat) : Int)).toNat % 2 ^ 10 := by
    rw [BitVec.toNat_and, BitVec.toNat_ofInt, h1, Nat.and_two_pow_sub_one_eq_mod]
  show IntKind.i64.wrap ((BitVec.ofInt 64 n &&& BitVec.ofInt 64 1023).toNat : Nat) = n % 1024
  rw [key, IntKind.wrap_i64]
  omega
theorem ext_at {p q : List Int} (hl : p.length = q.length) (h : ∀ i, i < p.length → at_ p i = at_ q i) : p = q := by
  refine List.ext_getElem hl fun i h1 h2 => ?_
  have := h i h1
  simpa [at_, List.getD, h1, h2] using this
/-- A point that no box has shows that its beginnings are free. -/
theorem free_of_point {l : List S25} {lo hi q : List Int} (hq : q.length = lo.length) (hc : covB l q = false) (hr : ∀ i, i < lo.length → at_ lo i ≤ at_ q i ∧ at_ q i ≤ at_ hi i) :
    ∀ (r : Nat) (p : List Int), p.length + r = lo.length → (∀ i, i < p.length → at_ p i = at_ q i) → Free l lo hi r p
  | 0, p, e, h => by
    have : p = q := ext_at (by omega) h
    rw [this]
    exact hc
  | r + 1, p, e, h => by
    have h1 := hr p.length (by omega)
    refine ⟨at_ q p.length, h1.1, h1.2, free_of_point hq hc hr r (p ++ [at_ q p.length]) (by simp; omega) fun i hi => ?_⟩
    simp at hi
    rcases Nat.eq_or_lt_of_le (Nat.le_of_lt_succ hi) with e' | e'
    · subst e'
      rw [at_snoc]
    · rw [at_snoc_lt e']
      exact h i e'
/-- What is told of the least point. -/
theorem best_facts {l : List S25} {lo hi h : List Int} : ∀ (r : Nat) (p : List Int), p.length + r = lo.length → Best l lo hi r p h →
    (∀ i, i < p.length → at_ h i = at_ p i) ∧ (∀ i, p.length ≤ i → i < lo.length → at_ lo i ≤ at_ h i ∧ at_ h i ≤ at_ hi i) ∧ covB l h = false ∧
    ∀ q : List Int, q.length = lo.length → covB l q = false → (∀ i, i < lo.length → at_ lo i ≤ at_ q i ∧ at_ q i ≤ at_ hi i) → ∀ i, i < lo.length → (∀ j, j < i → at_ h j = at_ q j) → p.length ≤ i → (∀ j, j < p.length → at_ p j = at_ q j) → at_ h i ≤ at_ q i
  | 0, p, e, hb => by
    obtain ⟨rfl, hc⟩ := hb
    exact ⟨fun _ _ => rfl, fun i h1 h2 => by omega, hc, fun q _ _ _ i h1 _ h2 => by omega⟩
  | r + 1, p, e, ⟨x, hx1, hx2, hb, hmin⟩ => by
    have hl : (p ++ [x]).length = p.length + 1 := by simp
    obtain ⟨f1, f2, f3, f4⟩ := best_facts r (p ++ [x]) (by simp; omega) hb
    rw [hl] at f1 f2 f4
    have hx : at_ h p.length = x := by
      rw [f1 p.length (by omega), at_snoc]
    refine ⟨fun i hi => ?_, fun i h1 h2 => ?_, f3, fun q hq hc hr i hi heq hpi hpq => ?_⟩
    · rw [f1 i (by omega), at_snoc_lt hi]
    · rcases Nat.eq_or_lt_of_le h1 with e' | e'
      · subst e'
        omega
      · exact f2 i e' h2
    · rcases Nat.eq_or_lt_of_le hpi with e' | e'
      · subst e'
        rw [hx]
        rcases Int.lt_or_le (at_ q p.length) x with hlt | hge
        · refine absurd (free_of_point hq hc hr r (p ++ [at_ q p.length]) (by simp; omega) fun i hi => ?_) (hmin _ (hr _ hi).1 hlt)
          simp at hi
          rcases Nat.eq_or_lt_of_le (Nat.le_of_lt_succ hi) with e' | e'
          · subst e'
            rw [at_snoc]
          · rw [at_snoc_lt e']
            exact hpq i e'
        · exact hge
      · refine f4 q hq hc hr i hi heq e' fun j hj => ?_
        rcases Nat.eq_or_lt_of_le (Nat.le_of_lt_succ hj) with e'' | e''
        · subst e''
          rw [at_snoc, ← hx]
          exact heq _ (by omega)
        · rw [at_snoc_lt e'']
          exact hpq j e''
/-- What the law looks at of gaps.Hole's answer. -/
structure Told (l : List S25) (lo hi h : List Int) (ok : Bool) : Prop where
  none : ok = false → h = [] ∧ ∀ q : List Int, q.length = lo.length → (∀ i, i < lo.length → at_ lo i ≤ at_ q i ∧ at_ q i ≤ at_ hi i) → covB l q = true
  whole : ok = true → inB lo hi h = true
  free : ok = true → ∀ i, i < l.length → inB (bx l i).f0 (bx l i).f1 h = false
  len : ok = true → h.length = lo.length
  least : ok = true → ∀ q : List Int, q.length = lo.length → covB l q = false → (∀ i, i < lo.length → at_ lo i ≤ at_ q i ∧ at_ q i ≤ at_ hi i) → ∀ i, i < lo.length → (∀ j, j < i → at_ h j = at_ q j) → at_ h i ≤ at_ q i
theorem told {l : List S25} {lo hi : List Int} (hG : Good l lo hi) : Told l lo hi (ansOf (holeF l lo hi lo.length [])).1 (ansOf (holeF l lo hi lo.length [])).2 := by
  rcases holeF_best (wholeLe hG) lo.length [] (by simp) with ⟨h, hn⟩ | ⟨q, h, hb⟩
  · rw [h]
    refine ⟨fun _ => ⟨rfl, fun q hq hr => ?_⟩, (fun h => by cases h), (fun h => by cases h), (fun h => by cases h), (fun h => by cases h)⟩
    cases hc : covB l q with
    | true => rfl
    | false => exact absurd (free_of_point hq hc hr lo.length [] (by simp) (fun i hi => by simp at hi)) hn
  · rw [h]
    obtain ⟨f1, f2, f3, f4⟩ := best_facts lo.length [] (by simp) hb
    have hlen : q.length = lo.length := by
      have := best_len hb
      simp at this
      exact this
    refine ⟨(fun h => by cases h), fun _ => ?_, fun _ i hi => ?_, fun _ => hlen, fun _ q' h1 h2 h3 i hi hj => f4 q' h1 h2 h3 i hi hj (Nat.zero_le _) (fun j hj => by simp at hj)⟩
    · show inB lo hi q = true
      rw [inB_iff]
      exact ⟨hlen, fun i hi => f2 i (Nat.zero_le _) (by omega)⟩
    · show inB _ _ q = false
      cases hc : inB (bx l i).f0 (bx l i).f1 q with
      | false => rfl
      | true =>
        have : covB l q = true := by
          unfold covB
          rw [List.any_eq_true]
          exact ⟨_, bx_mem hi, hc⟩
        rw [f3] at this
        cases this
theorem holes_l2 {lo h q : List Int} (hlen : h.length = lo.length) (h3 : lo.length ≤ 3) (hq : q.length = lo.length) (cov : Bool) (hl : cov = false → ∀ i, i < lo.length → (∀ j, j < i → at_ h j = at_ q j) → at_ h i ≤ at_ q i) :
    ∀ (n i : Nat), i + n = h.length → (cov = false → ∀ j, j < i → at_ h j = at_ q j) → Ev (fun k => dossierlaw9_GapsHoles.l2 k h q cov (i : Int)) true := by
  have hj0 : ∀ i : Nat, Ev (fun k => dossierlaw9_GapsHoles.j4 k h q cov (i : Int) false) true := fun i => Ev.succ (fun k => by rw [dossierlaw9_GapsHoles.j4, if_neg (by decide)]) known_ev
  intro n
  induction n with
  | zero => exact fun i e _ => Ev.succ (fun k => by rw [dossierlaw9_GapsHoles.l2, if_neg (by omega)]) (hj0 i)
  | succ n ih =>
    intro i e hs
    cases hcov : cov with
    | true =>
      rw [hcov] at hj0
      exact Ev.succ (fun k => by rw [dossierlaw9_GapsHoles.l2, if_pos (by omega)]; rfl) (hj0 i)
    | false =>
      rw [hcov] at ih
      have hle := hl hcov i (by omega) (hs hcov)
      refine Ev.succ (G := fun k => dossierlaw9_GapsHoles.j4 k h q false (i : Int) true) (fun k => by rw [dossierlaw9_GapsHoles.l2, if_pos (by omega)]; rfl) ?_
      have hc : ∀ k, dossierlaw9_GapsHoles.j4 (k + 1) h q false (i : Int) true = if at_ h i < at_ q i then ((dossierlaw9_known.f).bind fun t => (some t)) else if at_ q i < at_ h i then some false else dossierlaw9_GapsHoles.l2 k h q false ((i + 1 : Nat) : Int) := fun k => by
        rw [dossierlaw9_GapsHoles.j4, if_pos rfl, if_pos (by omega), if_pos (by omega), if_pos (by omega)]
        simp only [rd_at, up (show i ≤ 1000000 by omega), gt_iff_lt]
      by_cases h1 : at_ h i < at_ q i
      · exact Ev.succ (fun k => by rw [hc, if_pos h1]) known_ev
      · refine Ev.succ (fun k => by rw [hc, if_neg h1, if_neg (by omega)]) (ih (i + 1) (by omega) fun _ j hj => ?_)
        rcases Nat.eq_or_lt_of_le (Nat.le_of_lt_succ hj) with e' | e'
        · subst e'
          omega
        · exact hs hcov j e'
theorem holes_l1 {l : List S25} {lo hi h : List Int} {ok : Bool} (hG : Good l lo hi) (hT : Told l lo hi h ok) (q : List Int) (hq : q.length = lo.length) (hr : ∀ i, i < lo.length → at_ lo i ≤ at_ q i ∧ at_ q i ≤ at_ hi i) :
    ∀ (n i : Nat) (c : Bool), i + n = l.length → covB l q = (c || (l.drop i).any fun b => inB b.f0 b.f1 q) → Ev (fun k => dossierlaw9_GapsHoles.l1 k l h ok q c (i : Int) lo hi) true := by
  have h8 := hG.n
  have h3 := hG.whole.n3
  have hs := hG.whole.same
  intro n
  induction n with
  | zero =>
    intro i c e hc
    rw [List.drop_of_length_le (by omega)] at hc
    have hc' : covB l q = c := by simpa using hc
    have hu : ∀ k, dossierlaw9_GapsHoles.l1 (k + 1) l h ok q c (i : Int) lo hi = if ok = true then ((gaps_In.f k lo hi h).bind fun t => if t = true then dossierlaw9_GapsHoles.l2 k h q c ((0 : Nat) : Int) else some false) else if c = true then (if (h.length : Int) = 0 then ((dossierlaw9_known.f).bind fun t => (some t)) else some false) else some false := fun k => by
      rw [dossierlaw9_GapsHoles.l1, if_neg (by omega)]
      rfl
    refine Ev.succ hu ?_
    cases hok : ok with
    | true =>
      have hI := gin lo hi h hs (by omega)
      rw [hT.whole hok] at hI
      refine Ev.bind hI (Ev.same (fun k => by rw [if_pos rfl]) (holes_l2 (hT.len hok) h3 hq c (fun hcf => ?_) h.length 0 (by omega) (fun _ j hj => by omega)))
      rw [← hc'] at hcf
      exact hT.least hok q hq hcf hr
    | false =>
      obtain ⟨r1, r2⟩ := hT.none hok
      have hct : c = true := by rw [← hc']; exact r2 q hq hr
      exact Ev.same (fun k => by rw [if_neg (by decide), if_pos hct, if_pos (by rw [r1]; rfl)]) known_ev
  | succ n ih =>
    intro i c e hc
    have hb := (hG.bx (show i < l.length by omega)).1
    have hb3 := hb.n3
    rw [drop_bx (by omega), List.any_cons] at hc
    have hin : ok = true → Ev (fun k => gaps_In.f k (bx l i).f0 (bx l i).f1 h) false := fun hok => by
      have := gin (bx l i).f0 (bx l i).f1 h hb.same (by omega)
      rw [hT.free hok i (by omega)] at this
      exact this
    have hu : ∀ k, dossierlaw9_GapsHoles.l1 (k + 1) l h ok q c (i : Int) lo hi = if c = true then (if ok = true then ((gaps_In.f k (bx l i).f0 (bx l i).f1 h).bind fun t => if t = true then some false else dossierlaw9_GapsHoles.l1 k l h ok q true ((i + 1 : Nat) : Int) lo hi) else dossierlaw9_GapsHoles.l1 k l h ok q true ((i + 1 : Nat) : Int) lo hi) else ((dossierref9_In.f k (bx l i).f0 (bx l i).f1 q).bind fun t' => if ok = true then ((gaps_In.f k (bx l i).f0 (bx l i).f1 h).bind fun t => if t = true then some false else dossierlaw9_GapsHoles.l1 k l h ok q t' ((i + 1 : Nat) : Int) lo hi) else dossierlaw9_GapsHoles.l1 k l h ok q t' ((i + 1 : Nat) : Int) lo hi) := fun k => by
      rw [dossierlaw9_GapsHoles.l1, if_pos (by omega)]
      simp only [rd_bx, up (show i ≤ 1000000 by omega), if_pos (show (0 : Int) ≤ (i : Int) by omega)]
    refine Ev.succ hu ?_
    cases c with
    | true =>
      have ih' := ih (i + 1) true (by omega) (by rw [hc]; simp)
      cases hok : ok with
      | true =>
        rw [hok] at ih'
        exact Ev.bind (hin hok) ih'
      | false =>
        rw [hok] at ih'
        exact ih'
    | false =>
      have hI := rin (bx l i).f0 (bx l i).f1 q hb.same (by omega)
      have ih' := ih (i + 1) (inB (bx l i).f0 (bx l i).f1 q) (by omega) (by rw [hc]; simp)
      refine Ev.bind hI ?_
      cases hok : ok with
      | true =>
        rw [hok] at ih'
        exact Ev.bind (hin hok) ih'
      | false =>
        rw [hok] at ih'
        exact ih'
theorem holes_l0 {l : List S25} {lo hi h : List Int} {ok : Bool} (hG : Good l lo hi) (hT : Told l lo hi h ok) (p : List Int) (hp : lo.length ≤ p.length) :
    ∀ (n i : Nat) (q : List Int), i + n = lo.length → q.length = i → (∀ j, j < i → at_ lo j ≤ at_ q j ∧ at_ q j ≤ at_ hi j) → Ev (fun k => dossierlaw9_GapsHoles.l0 k l p h ok q (i : Int) lo hi) true := by
  have h3 := hG.whole.n3
  have hs := hG.whole.same
  intro n
  induction n with
  | zero =>
    intro i q e hq hr
    have : i = lo.length := by omega
    subst this
    exact Ev.succ (fun k => by rw [dossierlaw9_GapsHoles.l0, if_neg (by omega)]; rfl) (holes_l1 hG hT q hq hr l.length 0 false (by omega) (by simp [covB]))
  | succ n ih =>
    intro i q e hq hr
    have hn := hG.whole.num i (by omega)
    have hw1 : wrap64 (at_ hi i - at_ lo i) = at_ hi i - at_ lo i := by
      unfold wrap64
      omega
    have hw2 : wrap64 (at_ hi i - at_ lo i + 1) = at_ hi i - at_ lo i + 1 := by
      unfold wrap64
      omega
    have hm : 0 ≤ Int.tmod (at_ p i % 1024) (at_ hi i - at_ lo i + 1) ∧ Int.tmod (at_ p i % 1024) (at_ hi i - at_ lo i + 1) ≤ at_ hi i - at_ lo i := by
      have h1 := Int.tmod_nonneg (at_ hi i - at_ lo i + 1) (show 0 ≤ at_ p i % 1024 by omega)
      have h2 := Int.tmod_lt_of_pos (at_ p i % 1024) (show 0 < at_ hi i - at_ lo i + 1 by omega)
      omega
    have hw3 : wrap64 (at_ lo i + Int.tmod (at_ p i % 1024) (at_ hi i - at_ lo i + 1)) = at_ lo i + Int.tmod (at_ p i % 1024) (at_ hi i - at_ lo i + 1) := by
      unfold wrap64
      omega
    have hu : ∀ k, dossierlaw9_GapsHoles.l0 (k + 1) l p h ok q (i : Int) lo hi = dossierlaw9_GapsHoles.l0 k l p h ok (q ++ [at_ lo i + Int.tmod (at_ p i % 1024) (at_ hi i - at_ lo i + 1)]) ((i + 1 : Nat) : Int) lo hi := fun k => by
      rw [dossierlaw9_GapsHoles.l0, if_pos (by omega), if_pos (by omega), if_pos (by omega), if_pos (by omega)]
      simp only [rd_at, i64_and1023, hw1, hw2, hw3, up (show i ≤ 1000000 by omega)]
      rw [if_neg (by omega), if_pos (by omega)]
    refine Ev.succ hu (ih (i + 1) _ (by omega) (by simp [hq]) fun j hj => ?_)
    rcases Nat.eq_or_lt_of_le (Nat.le_of_lt_succ hj) with e' | e'
    · subst e'
      subst hq
      rw [at_snoc]
      omega
    · rw [at_snoc_lt (by omega)]
      exact hr j e'
theorem holes_true (l : List S25) (lo hi p : List Int) : ∃ k, dossierlaw9_GapsHoles.f k l lo hi p = some true := by
  apply Ev.get
  have hno : Ev (fun k => dossierlaw9_GapsHoles.j0 k l p true lo hi) true := Ev.succ (G := fun _ => some true) (fun k => by rw [dossierlaw9_GapsHoles.j0, if_pos rfl]) (Ev.now _)
  rcases may l lo hi with ⟨h, hG⟩ | h
  · refine Ev.bind h ?_
    by_cases h1 : p.length < lo.length
    · exact Ev.same (fun k => by rw [if_pos rfl, if_pos (by omega)]) hno
    · by_cases h2 : 10 < p.length
      · exact Ev.same (fun k => by rw [if_pos rfl, if_neg (by omega), decide_eq_true (by omega)]) hno
      · refine Ev.same (fun k => by rw [if_pos rfl, if_neg (by omega), decide_eq_false (by omega)]) (Ev.succ (fun k => by rw [dossierlaw9_GapsHoles.j0, if_neg (by decide)]) (Ev.bind (ghole hG) ?_))
        exact holes_l0 hG (told hG) p (by omega) lo.length 0 [] (by omega) rfl (fun j hj => by omega)
  · exact Ev.bind h (Ev.same (fun k => by rw [if_neg (by decide)]) hno)
theorem holes_walk (A : Option Addr) (c : Nat) (l : List S25) (A0 : Option Addr) (c0 : Nat) (lo : List Int) (A1 : Option Addr) (c1 : Nat) (hi : List Int) (A2 : Option Addr) (c2 : Nat) (p : List Int) (w : World)
    (gl : l.length ≤ c) (hl : Kd.C k25 w A l.length l) (g0 : lo.length ≤ c0) (h0 : Kd.C (Kd.int .i64) w A0 lo.length lo) (g1 : hi.length ≤ c1) (h1 : Kd.C (Kd.int .i64) w A1 hi.length hi) (g2 : p.length ≤ c2) (h2 : Kd.C (Kd.int .i64) w A2 p.length p) :
    Calls Try.prog 5 #[.slice A l.length c, .agg #[.slice A0 lo.length c0, .slice A1 hi.length c1], .slice A2 p.length c2] w fun e w' => e = .returned (.bool true) ∧ Below w.heap.size w w' := by
  obtain ⟨k, hk⟩ := holes_true l lo hi p
  exact dossierlaw9_GapsHoles.calls k A c l A0 c0 lo A1 c1 hi A2 c2 p true w hl gl h0 g0 h1 g1 h2 g2 (Aside0.mk rfl) hk
end Go.Proofs.Ytjikkeajhogcdaa
