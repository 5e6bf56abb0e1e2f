/- gaps.hole's answer is the least free point: plain Lean, no program. -/
import Derived.Test.YtjikkeajhogcdaaMine
namespace Go.Proofs.Ytjikkeajhogcdaa
open Go.RowKit Go.Proofs.YtjikkeajhogcdaaW.PrintWords Go.Proofs.YtjikkeajhogcdaaW.PrintLast Go.Proofs.YtjikkeajhogcdaaW.PrintMore PGapsTells
/-- Compact keeps what is there. -/
theorem mem_compact_at {zs : List Int} {x : Int} : ∀ j : Nat, j < zs.length → zs.toArray[j]! = x → x ∈ Lib.compact zs := by
  intro j
  induction j with
  | zero =>
    intro hj e
    unfold Lib.compact Lib.compactUpTo
    exact List.mem_map.2 ⟨0, List.mem_filter.2 ⟨List.mem_range.2 hj, decide_eq_true (.inl rfl)⟩, e⟩
  | succ j ih =>
    intro hj e
    by_cases hp : zs.toArray[j]! = x
    · exact ih (by omega) hp
    · unfold Lib.compact Lib.compactUpTo
      refine List.mem_map.2 ⟨j + 1, List.mem_filter.2 ⟨List.mem_range.2 hj, decide_eq_true (.inr fun h => hp ?_)⟩, e⟩
      rw [← e, h]
      rfl
theorem mem_compact {zs : List Int} {x : Int} (h : x ∈ zs) : x ∈ Lib.compact zs := by
  obtain ⟨j, hj, e⟩ := List.getElem_of_mem h
  exact mem_compact_at j hj (by simp [hj, e])
theorem compact_mem {zs : List Int} {x : Int} (h : x ∈ Lib.compact zs) : x ∈ zs := by
  unfold Lib.compact Lib.compactUpTo at h
  obtain ⟨j, hj, e⟩ := List.mem_map.1 h
  have hj' := List.mem_range.1 (List.mem_filter.1 hj).1
  rw [← e]
  simp [hj']
theorem compact_sorted {zs : List Int} (h : zs.Pairwise (· ≤ ·)) : (Lib.compact zs).Pairwise (· ≤ ·) := by
  have hs : (Lib.compact zs).Sublist zs := by
    have := (List.filter_sublist (p := Lib.keeps zs.toArray) (l := List.range zs.length)).map (zs.toArray[·]!)
    have hr : (List.range zs.length).map (zs.toArray[·]!) = zs := by
      have := Lib.range_map_get zs.toArray
      simpa using this
    rw [hr] at this
    exact this
  exact h.sublist hs
theorem stepsF_sorted (l : List S25) (lo hi : List Int) (d : Nat) : (stepsF l lo hi d).Pairwise (· ≤ ·) := by
  unfold stepsF
  apply compact_sorted
  have := List.pairwise_mergeSort (le := fun x y : Int => decide (x ≤ y)) (fun a b c h1 h2 => by simp at *; omega) (fun a b => by simp; omega) (cand l lo hi d)
  simpa using this
theorem mem_stepsF (l : List S25) (lo hi : List Int) (d : Nat) (x : Int) : x ∈ stepsF l lo hi d ↔ x ∈ cand l lo hi d := by
  unfold stepsF
  constructor
  · intro h
    exact (List.mem_mergeSort).1 (compact_mem h)
  · intro h
    exact mem_compact ((List.mem_mergeSort).2 h)
theorem mem_cand (l : List S25) (lo hi : List Int) (d : Nat) (x : Int) : x ∈ cand l lo hi d ↔ x = at_ lo d ∨ ∃ b ∈ l, at_ b.f1 d + 1 = x ∧ at_ lo d < x ∧ x ≤ at_ hi d := by
  unfold cand
  simp only [List.mem_cons, List.mem_filterMap]
  constructor
  · rintro (h | ⟨b, hb, h⟩)
    · exact .inl h
    · split at h
      case isTrue hc =>
        simp only [Option.some.injEq] at h
        subst h
        exact .inr ⟨b, hb, rfl, hc.1, hc.2⟩
      case isFalse => cases h
  · rintro (h | ⟨b, hb, rfl, h1, h2⟩)
    · exact .inl h
    · exact .inr ⟨b, hb, by rw [if_pos ⟨h1, h2⟩]⟩
/-- Is there a free point that begins so, r sides being left? -/
def Free (l : List S25) (lo hi : List Int) : Nat → List Int → Prop
  | 0, p => covB l p = false
  | r + 1, p => ∃ x, at_ lo p.length ≤ x ∧ x ≤ at_ hi p.length ∧ Free l lo hi r (p ++ [x])
/-- q is the least of them. -/
def Best (l : List S25) (lo hi : List Int) : Nat → List Int → List Int → Prop
  | 0, p, q => q = p ∧ covB l p = false
  | r + 1, p, q => ∃ x, at_ lo p.length ≤ x ∧ x ≤ at_ hi p.length ∧ Best l lo hi r (p ++ [x]) q ∧ ∀ y, at_ lo p.length ≤ y → y < x → ¬ Free l lo hi r (p ++ [y])
theorem Best.free {l : List S25} {lo hi : List Int} : ∀ {r : Nat} {p q : List Int}, Best l lo hi r p q → Free l lo hi r p
  | 0, _, _, h => h.2
  | _ + 1, _, _, ⟨x, h1, h2, h3, _⟩ => ⟨x, h1, h2, Best.free h3⟩
theorem Best.one {l : List S25} {lo hi : List Int} : ∀ {r : Nat} {p q q' : List Int}, Best l lo hi r p q → Best l lo hi r p q' → q = q'
  | 0, _, _, _, h, h' => h.1.trans h'.1.symm
  | r + 1, p, q, q', ⟨x, h1, h2, h3, h4⟩, ⟨x', h1', h2', h3', h4'⟩ => by
    have : x = x' := by
      rcases Int.lt_trichotomy x x' with h | h | h
      · exact absurd h3.free (h4' x h1 h)
      · exact h
      · exact absurd h3'.free (h4 x' h1' h)
    subst this
    exact Best.one h3 h3'
/-- Does a box have what begins so? -/
def Pre (lo hi p : List Int) : Prop := ∀ i, i < p.length → at_ lo i ≤ at_ p i ∧ at_ p i ≤ at_ hi i
theorem inFrom_iff (lo hi p : List Int) : ∀ (n i : Nat), inFrom lo hi p i n = true ↔ ∀ j, i ≤ j → j < i + n → at_ lo j ≤ at_ p j ∧ at_ p j ≤ at_ hi j
  | 0, i => by simp [inFrom]; omega
  | n + 1, i => by
    unfold inFrom
    have ih := inFrom_iff lo hi p n (i + 1)
    split
    case isTrue h =>
      simp only [Bool.false_eq_true, false_iff]
      intro hc
      have := hc i (by omega) (by omega)
      omega
    case isFalse h =>
      split
      case isTrue h' =>
        simp only [Bool.false_eq_true, false_iff]
        intro hc
        have := hc i (by omega) (by omega)
        omega
      case isFalse h' =>
        rw [ih]
        constructor
        · intro hc j h1 h2
          rcases Nat.eq_or_lt_of_le h1 with e | e
          · subst e
            omega
          · exact hc j e (by omega)
        · intro hc j h1 h2
          exact hc j (by omega) (by omega)
theorem inB_iff (lo hi p : List Int) : inB lo hi p = true ↔ p.length = lo.length ∧ Pre lo hi p := by
  unfold inB
  split
  case isTrue h =>
    rw [inFrom_iff]
    exact ⟨fun hc => ⟨h, fun i hi => hc i (by omega) (by omega)⟩, fun hc j _ hj => hc.2 j (by omega)⟩
  case isFalse h => simp [h]
theorem at_snoc_lt {p : List Int} {x : Int} {i : Nat} (h : i < p.length) : at_ (p ++ [x]) i = at_ p i := by
  simp [at_, List.getD, List.getElem?_append_left h]
theorem at_snoc {p : List Int} {x : Int} : at_ (p ++ [x]) p.length = x := by
  simp [at_, List.getD]
theorem pre_snoc {lo hi p : List Int} {x : Int} : Pre lo hi (p ++ [x]) ↔ Pre lo hi p ∧ at_ lo p.length ≤ x ∧ x ≤ at_ hi p.length := by
  constructor
  · intro h
    refine ⟨fun i hi => ?_, ?_⟩
    · have := h i (by simp; omega)
      rw [at_snoc_lt hi] at this
      exact this
    · have := h p.length (by simp)
      rw [at_snoc] at this
      exact this
  · rintro ⟨h1, h2⟩ i hi
    simp at hi
    rcases Nat.eq_or_lt_of_le (Nat.le_of_lt_succ hi) with e | e
    · subst e
      rw [at_snoc]
      exact h2
    · rw [at_snoc_lt e]
      exact h1 i e
/-- What fewer boxes have is free the rather. -/
theorem Free.of {l : List S25} {lo hi : List Int} : ∀ (r : Nat) (p p' : List Int), p.length = p'.length → (∀ b ∈ l, Pre b.f0 b.f1 p' → Pre b.f0 b.f1 p) → Free l lo hi r p → Free l lo hi r p'
  | 0, p, p', e, h, hf => by
    unfold Free at hf ⊢
    rw [Bool.eq_false_iff] at hf ⊢
    intro hc
    apply hf
    unfold covB at hc ⊢
    rw [List.any_eq_true] at hc ⊢
    obtain ⟨b, hb, hi⟩ := hc
    rw [inB_iff] at hi
    exact ⟨b, hb, by rw [inB_iff]; exact ⟨e.trans hi.1, h b hb hi.2⟩⟩
  | r + 1, p, p', e, h, ⟨x, h1, h2, hf⟩ => by
    rw [e] at h1 h2
    refine ⟨x, h1, h2, Free.of r (p ++ [x]) (p' ++ [x]) (by simp [e]) (fun b hb hp => ?_) hf⟩
    rw [pre_snoc] at hp ⊢
    rw [e]
    exact ⟨h b hb hp.1, hp.2⟩
/-- A number just behind no box's end is no freer than the one ahead of it. -/
theorem Free.back' {l : List S25} {lo hi : List Int} {r : Nat} {p : List Int} {x : Int} (hn : ∀ b ∈ l, at_ b.f1 p.length + 1 ≠ x) (hf : Free l lo hi r (p ++ [x])) : Free l lo hi r (p ++ [x - 1]) := by
  refine Free.of r (p ++ [x]) (p ++ [x - 1]) (by simp) (fun b hb' hp => ?_) hf
  rw [pre_snoc] at hp ⊢
  have := hn b hb'
  exact ⟨hp.1, by omega, by omega⟩
/-- The first free number of a side is a step. -/
theorem step_free {l : List S25} {lo hi : List Int} {r : Nat} {p : List Int} : ∀ (m : Nat) (x : Int), at_ lo p.length + (m : Int) = x → x ≤ at_ hi p.length → Free l lo hi r (p ++ [x]) → ∃ y, y ≤ x ∧ y ∈ stepsF l lo hi p.length ∧ Free l lo hi r (p ++ [y])
  | 0, x, e, h2, hf => ⟨x, Int.le_refl _, (mem_stepsF _ _ _ _ _).2 ((mem_cand _ _ _ _ _).2 (.inl (by omega))), hf⟩
  | m + 1, x, e, h2, hf => by
    by_cases hb : ∃ b ∈ l, at_ b.f1 p.length + 1 = x
    · obtain ⟨b, hb, hx⟩ := hb
      exact ⟨x, Int.le_refl _, (mem_stepsF _ _ _ _ _).2 ((mem_cand _ _ _ _ _).2 (.inr ⟨b, hb, hx, by omega, h2⟩)), hf⟩
    · obtain ⟨y, h3, h4, h5⟩ := step_free m (x - 1) (by omega) (by omega) (Free.back' (fun b hb' he => hb ⟨b, hb', he⟩) hf)
      exact ⟨y, by omega, h4, h5⟩
theorem steps_range {l : List S25} {lo hi : List Int} {d : Nat} (h : at_ lo d ≤ at_ hi d) {x : Int} (hx : x ∈ stepsF l lo hi d) : at_ lo d ≤ x ∧ x ≤ at_ hi d := by
  rcases (mem_cand _ _ _ _ _).1 ((mem_stepsF _ _ _ _ _).1 hx) with h' | ⟨b, _, _, h1, h2⟩ <;> omega
theorem firstSome_cases {α β : Type} (f : α → Option β) : ∀ (l : List α), (firstSome f l = none ∧ ∀ x ∈ l, f x = none) ∨ ∃ a x b y, l = a ++ x :: b ∧ f x = some y ∧ firstSome f l = some y ∧ ∀ z ∈ a, f z = none
  | [] => .inl ⟨rfl, by simp⟩
  | x :: r => by
    cases hx : f x with
    | some y => exact .inr ⟨[], x, r, y, rfl, hx, by simp [firstSome, hx], by simp⟩
    | none =>
      rcases firstSome_cases f r with ⟨h1, h2⟩ | ⟨a, x', b, y, rfl, h1, h2, h3⟩
      · exact .inl ⟨by simp [firstSome, hx, h1], by simpa [hx] using h2⟩
      · exact .inr ⟨x :: a, x', b, y, rfl, h1, by simp [firstSome, hx, h2], by simpa [hx] using h3⟩
/-- What gaps.hole answers. -/
theorem holeF_best {l : List S25} {lo hi : List Int} (hw : ∀ d, d < lo.length → at_ lo d ≤ at_ hi d) : ∀ (r : Nat) (p : List Int), p.length + r = lo.length → (holeF l lo hi r p = none ∧ ¬ Free l lo hi r p) ∨ ∃ q, holeF l lo hi r p = some q ∧ Best l lo hi r p q
  | 0, p, _ => by
    unfold holeF
    cases h : covB l p with
    | true => exact .inl ⟨by simp, by simp [Free, h]⟩
    | false => exact .inr ⟨p, by simp, rfl, h⟩
  | r + 1, p, e => by
    have ih := fun x => holeF_best (l := l) hw r (p ++ [x]) (by simp; omega)
    have hno : ∀ x, holeF l lo hi r (p ++ [x]) = none → ¬ Free l lo hi r (p ++ [x]) := fun x hx => by
      rcases ih x with ⟨_, h⟩ | ⟨q, h, _⟩
      · exact h
      · rw [hx] at h
        cases h
    unfold holeF
    rcases firstSome_cases (fun n => holeF l lo hi r (p ++ [n])) (stepsF l lo hi p.length) with ⟨h1, h2⟩ | ⟨a, x, b, q, hs, h1, h2, h3⟩
    · refine .inl ⟨h1, ?_⟩
      rintro ⟨x, hx1, hx2, hf⟩
      obtain ⟨y, _, hy, hf'⟩ := step_free (x - at_ lo p.length).toNat x (by omega) hx2 hf
      exact hno y (h2 y hy) hf'
    · refine .inr ⟨q, h2, ?_⟩
      have hx := steps_range (hw p.length (by omega)) (show x ∈ stepsF l lo hi p.length by rw [hs]; simp)
      refine ⟨x, hx.1, hx.2, ?_, ?_⟩
      · rcases ih x with ⟨h, _⟩ | ⟨q', h, hb⟩
        · rw [show holeF l lo hi r (p ++ [x]) = some q from h1] at h
          cases h
        · rw [show holeF l lo hi r (p ++ [x]) = some q from h1] at h
          cases h
          exact hb
      · intro y hy1 hy2 hf
        obtain ⟨z, hz1, hz2, hf'⟩ := step_free (y - at_ lo p.length).toNat y (by omega) (by omega) hf
        have hsort := stepsF_sorted l lo hi p.length
        rw [hs] at hz2 hsort
        rw [List.pairwise_append] at hsort
        rcases List.mem_append.1 hz2 with hz | hz
        · exact hno z (h3 z hz) hf'
        · rcases List.mem_cons.1 hz with rfl | hz
          · omega
          · have := (List.pairwise_cons.1 hsort.2.1).1 z hz
            omega
end Go.Proofs.Ytjikkeajhogcdaa
