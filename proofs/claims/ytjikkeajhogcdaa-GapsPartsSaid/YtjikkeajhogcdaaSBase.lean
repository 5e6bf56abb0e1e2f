/- What holds of answers in the end, and of boxes that may be: plain Lean, no machine. -/
import Derived.Test.YtjikkeajhogcdaaFree
namespace Go.Proofs.Ytjikkeajhogcdaa
open Go.RowKit Go.Proofs.YtjikkeajhogcdaaW.PrintWords Go.Proofs.YtjikkeajhogcdaaW.PrintLast Go.Proofs.YtjikkeajhogcdaaW.PrintMore PGapsTells
/-- With rounds enough f answers r. -/
def Ev {α : Type} (f : Nat → Option α) (r : α) : Prop := ∃ K, ∀ k, K ≤ k → f k = some r
theorem Ev.now {α : Type} (r : α) : Ev (fun _ => some r) r := ⟨0, fun _ _ => rfl⟩
theorem Ev.bind {α β : Type} {f : Nat → Option α} {g : Nat → α → Option β} {x : α} {y : β} : Ev f x → Ev (fun k => g k x) y → Ev (fun k => (f k).bind (g k)) y
  | ⟨K, h⟩, ⟨L, h'⟩ => ⟨K + L, fun k hk => by
    show (f k).bind (g k) = some y
    rw [h k (by omega)]
    exact h' k (by omega)⟩
theorem Ev.succ {α : Type} {F G : Nat → Option α} {r : α} (hs : ∀ k, F (k + 1) = G k) : Ev G r → Ev F r
  | ⟨K, h⟩ => ⟨K + 1, fun k hk => by
    obtain ⟨j, rfl⟩ : ∃ j, k = j + 1 := ⟨k - 1, by omega⟩
    rw [hs]
    exact h j (by omega)⟩
theorem Ev.same {α : Type} {F G : Nat → Option α} {r : α} (hs : ∀ k, F k = G k) : Ev G r → Ev F r
  | ⟨K, h⟩ => ⟨K, fun k hk => by
    rw [hs]
    exact h k hk⟩
theorem Ev.get {α : Type} {f : Nat → Option α} {r : α} : Ev f r → ∃ k, f k = some r
  | ⟨K, h⟩ => ⟨K, h K (Nat.le_refl _)⟩
theorem up {i : Nat} (h : i ≤ 1000000) : wrap64 ((i : Int) + 1) = ((i + 1 : Nat) : Int) := by
  unfold wrap64
  omega
def bx (l : List S25) (i : Nat) : S25 := l.getD i z25
theorem rd_bx (l : List S25) (i : Nat) : rd_T25 l (i : Int) = bx l i := by simp [rd_T25, bx]
theorem bx_mem {l : List S25} {i : Nat} (h : i < l.length) : bx l i ∈ l := by
  unfold bx
  simp [List.getD, h]
def isFrom (lo hi : List Int) (i : Nat) : Nat → Bool
  | 0 => true
  | n + 1 => if at_ lo i < 0 then false else if at_ hi i < at_ lo i then false else if 1000 < at_ hi i then false else isFrom lo hi (i + 1) n
def isB (lo hi : List Int) : Bool := if lo.length < 1 then false else if 3 < lo.length then false else if hi.length ≠ lo.length then false else isFrom lo hi 0 lo.length
/-- What a box is that may be. -/
structure IsBox (lo hi : List Int) : Prop where
  n1 : 1 ≤ lo.length
  n3 : lo.length ≤ 3
  same : hi.length = lo.length
  num : ∀ i, i < lo.length → 0 ≤ at_ lo i ∧ at_ lo i ≤ at_ hi i ∧ at_ hi i ≤ 1000
theorem isFrom_num {lo hi : List Int} : ∀ {n i : Nat}, isFrom lo hi i n = true → ∀ j, i ≤ j → j < i + n → 0 ≤ at_ lo j ∧ at_ lo j ≤ at_ hi j ∧ at_ hi j ≤ 1000
  | 0, i, _, j, h1, h2 => by omega
  | n + 1, i, h, j, h1, h2 => by
    unfold isFrom at h
    split at h
    case isTrue => cases h
    case isFalse c1 =>
      split at h
      case isTrue => cases h
      case isFalse c2 =>
        split at h
        case isTrue => cases h
        case isFalse c3 =>
          rcases Nat.eq_or_lt_of_le h1 with e | e
          · subst e
            omega
          · exact isFrom_num h j e (by omega)
theorem isBox {lo hi : List Int} (h : isB lo hi = true) : IsBox lo hi := by
  unfold isB at h
  split at h
  case isTrue => cases h
  case isFalse c1 =>
    split at h
    case isTrue => cases h
    case isFalse c2 =>
      split at h
      case isTrue => cases h
      case isFalse c3 => exact ⟨by omega, by omega, by simpa using c3, fun i hi => isFrom_num h i (by omega) (by omega)⟩
structure Good (l : List S25) (lo hi : List Int) : Prop where
  n : l.length ≤ 8
  whole : IsBox lo hi
  all : ∀ b ∈ l, IsBox b.f0 b.f1 ∧ b.f0.length = lo.length
theorem Good.bx {l : List S25} {lo hi : List Int} (h : Good l lo hi) {i : Nat} (hi' : i < l.length) : IsBox (bx l i).f0 (bx l i).f1 ∧ (bx l i).f0.length = lo.length := h.all _ (bx_mem hi')
theorem drop_bx {l : List S25} {i : Nat} (h : i < l.length) : l.drop i = bx l i :: l.drop (i + 1) := by
  rw [List.drop_eq_getElem_cons h]
  simp [bx, List.getD, h]
theorem wholeLe {l : List S25} {lo hi : List Int} (hG : Good l lo hi) : ∀ d, d < lo.length → at_ lo d ≤ at_ hi d := fun d hd => (hG.whole.num d hd).2.1
theorem good_boxes {l : List S25} {lo hi : List Int} (hG : Good l lo hi) : boxesB l lo hi = true := by
  have h3 := hG.whole.n3
  have hn := hG.n
  simp only [boxesB, Bool.and_eq_true, decide_eq_true_eq, List.all_eq_true]
  refine ⟨⟨⟨hn, by omega⟩, hG.whole.same⟩, fun b hb => ?_⟩
  obtain ⟨h1, h2⟩ := hG.all b hb
  have hs := h1.same
  refine ⟨⟨h2, by omega⟩, fun x hx => ?_⟩
  obtain ⟨j, hj, rfl⟩ := List.getElem_of_mem hx
  have := h1.num j (by omega)
  have he : at_ b.f1 j = b.f1[j] := by simp [at_, List.getD, hj]
  rw [he] at this
  omega
theorem ghole {l : List S25} {lo hi : List Int} (hG : Good l lo hi) : Ev (fun k => gaps_Hole.f k l lo hi) (ansOf (holeF l lo hi lo.length [])) :=
  Ev.same (fun k => by rw [gaps_Hole.f, if_pos (good_boxes hG)]) (Ev.now _)
theorem known_ev : Ev (fun _ : Nat => (dossierlaw9_known.f).bind fun t => (some t : Option Bool)) true := Ev.now true
theorem best_len {l : List S25} {lo hi : List Int} : ∀ {r : Nat} {p q : List Int}, Best l lo hi r p q → q.length = p.length + r
  | 0, _, _, h => by rw [h.1]; rfl
  | r + 1, p, q, ⟨x, _, _, h, _⟩ => by
    have := best_len h
    simp at this
    omega
end Go.Proofs.Ytjikkeajhogcdaa
