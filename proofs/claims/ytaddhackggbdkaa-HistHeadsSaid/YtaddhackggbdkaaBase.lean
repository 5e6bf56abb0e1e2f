/- Rows of events: what they hold, how one is told of another, how they are appended to; no condition. -/
import Derived.Test.YtaddhackggbdkaaPHistTellsx2
import Derived.Test.YtaddhackggbdkaaOpen
import Derived.Lib.Hide
import Derived.Maps.AppendAt
import Derived.Maps.OwnSet
import Derived.Maps.OwnOps
namespace Go.Proofs.Ytaddhackggbdkaa
open Go.RowKit Go.Proofs.YtaddhackggbdkaaW.PrintWords Go.Proofs.YtaddhackggbdkaaW.PrintLast Go.Proofs.YtaddhackggbdkaaW.PrintMore PHistTells
/-- An event's cells. -/
def ev (x : S39) : List Value := [.int .i64 x.f0, .bool x.f1, .int .i64 x.f2, .int .i64 x.f3, .int .i64 x.f4]
def evs (l : List S39) : List Value := l.flatMap ev
theorem ev_length (x : S39) : (ev x).length = 5 := rfl
theorem evs_nil : evs [] = [] := rfl
theorem evs_cons (x : S39) (l : List S39) : evs (x :: l) = ev x ++ evs l := by simp [evs]
theorem evs_append (l m : List S39) : evs (l ++ m) = evs l ++ evs m := by simp [evs]
theorem evs_length : ∀ l : List S39, (evs l).length = l.length * 5
  | [] => rfl
  | x :: l => by rw [evs_cons, List.length_append, evs_length l, ev_length, List.length_cons]; omega
theorem ev_one (x : S39) : ∀ u ∈ ev x, u.oneCell' = true := by
  intro u hu
  simp [ev] at hu
  rcases hu with rfl | rfl | rfl | rfl | rfl <;> rfl
theorem evs_one (l : List S39) : ∀ u ∈ evs l, u.oneCell' = true := by
  intro u hu
  obtain ⟨x, _, hx⟩ := List.mem_flatMap.1 hu
  exact ev_one x u hx
theorem evs_at : ∀ (l : List S39) (j : Nat) (x : S39) (i : Nat) (u : Value), l[j]? = some x → (ev x)[i]? = some u → (evs l)[j * 5 + i]? = some u
  | [], j, x, i, u, h, _ => by simp at h
  | y :: l, 0, x, i, u, h, hu => by
    simp at h
    subst h
    have hi : i < (ev y).length := (List.getElem?_eq_some_iff.1 hu).1
    rw [evs_cons, Nat.zero_mul, Nat.zero_add, List.getElem?_append_left hi, hu]
  | y :: l, j + 1, x, i, u, h, hu => by
    rw [evs_cons, List.getElem?_append_right (by rw [ev_length]; omega), ev_length, show (j + 1) * 5 + i - 5 = j * 5 + i by omega]
    exact evs_at l j x i u (by simpa using h) hu
/-- The row of v holds the events l, and is the call's own from block B on. -/
def Own (w : World) (B : Nat) (v : Value) (l : List S39) : Prop := w.ownsRow B 39 5 v l.length (evs l)
/-- The events l are read at A. -/
def Rd (w : World) (A : Option Addr) (l : List S39) : Prop := l = [] ∨ ∃ ad, A = some ad ∧ ad.block < w.heap.size ∧ ∀ j u, (evs l)[j]? = some u → w.cell? (ad.add j) = some u
theorem Rd.nil (w : World) (A : Option Addr) : Rd w A [] := .inl rfl
theorem Rd.C {w : World} {A : Option Addr} {l : List S39} (h : Rd w A l) (hn : l.length ≤ 1000000) : Kd.C k39 w A l.length l := by
  refine ⟨rfl, by omega, fun h0 => ?_⟩
  rcases h with rfl | ⟨ad, rfl, _, h⟩
  · simp at h0
  · refine ⟨ad, rfl, fun j x hj => ⟨ev x, rfl, k39_mk w x, fun i u hi => ?_⟩⟩
    have hsz : k39.sz = 5 := rfl
    rw [hsz]
    exact h _ _ (evs_at l j x i u hj hi)
theorem evs_inv : ∀ (l : List S39) (k : Nat) (u : Value), (evs l)[k]? = some u → ∃ x, l[k / 5]? = some x ∧ (ev x)[k % 5]? = some u
  | [], k, u, h => by simp [evs] at h
  | y :: l, k, u, h => by
    rw [evs_cons] at h
    by_cases hk : k < 5
    · rw [List.getElem?_append_left (by rw [ev_length]; omega)] at h
      exact ⟨y, by rw [show k / 5 = 0 by omega]; rfl, by rw [show k % 5 = k by omega]; exact h⟩
    · rw [List.getElem?_append_right (by rw [ev_length]; omega), ev_length] at h
      obtain ⟨x, h1, h2⟩ := evs_inv l (k - 5) u h
      refine ⟨x, ?_, by rw [show k % 5 = (k - 5) % 5 by omega]; exact h2⟩
      rw [show k / 5 = (k - 5) / 5 + 1 by omega]
      simpa using h1
theorem Rd.of_C {w : World} {A : Option Addr} {l : List S39} (h : Kd.C k39 w A l.length l) : Rd w A l := by
  rcases Nat.eq_zero_or_pos l.length with h0 | h0
  · exact .inl (List.length_eq_zero_iff.1 h0)
  · obtain ⟨ad, rfl, hc⟩ := h.2.2 h0
    have key : ∀ j u, (evs l)[j]? = some u → w.cell? (ad.add j) = some u := fun k u hk => by
      obtain ⟨x, h1, h2⟩ := evs_inv l k u hk
      obtain ⟨c, hs, hK, hcell⟩ := hc _ x h1
      have : c = ev x := k39_open hK
      subst this
      have := hcell (k % 5) u h2
      have hsz : k39.sz = 5 := rfl
      rw [hsz, show k / 5 * 5 + k % 5 = k by omega] at this
      exact this
    refine .inr ⟨ad, rfl, ?_, key⟩
    have hl : 0 < (evs l).length := by rw [evs_length]; omega
    have := lt_of_cell (key 0 _ (List.getElem?_eq_getElem hl))
    rwa [add_block] at this
theorem Rd.mono {w w' : World} {A : Option Addr} {l : List S39} (h : Rd w A l) (hs : w.heap.size ≤ w'.heap.size) (hb : ∀ ad, A = some ad → l ≠ [] → w'.heap[ad.block]? = w.heap[ad.block]?) : Rd w' A l := by
  rcases h with rfl | ⟨ad, rfl, hlt, h⟩
  · exact .inl rfl
  · by_cases hl : l = []
    · exact .inl hl
    · refine .inr ⟨ad, rfl, by omega, fun j u hj => ?_⟩
      have := h j u hj
      unfold World.cell? at this ⊢
      rw [add_block, hb ad rfl hl]
      rw [add_block] at this
      exact this
theorem Rd.below {w w' : World} {A : Option Addr} {l : List S39} (h : Rd w A l) (hb : Below w.heap.size w w') : Rd w' A l := by
  rcases h with rfl | ⟨ad, rfl, hlt, h⟩
  · exact .inl rfl
  · exact Rd.mono (.inr ⟨ad, rfl, hlt, h⟩) hb.size fun ad' e _ => by
      injection e with e
      subst e
      exact hb.block _ hlt
theorem Own.shape {w : World} {B : Nat} {v : Value} {l : List S39} (h : Own w B v l) : ∃ A c, v = .slice A l.length c ∧ l.length ≤ c ∧ Rd w A l ∧ (A = none → c = 0) := by
  rcases h.2 with ⟨rfl, h0⟩ | ⟨g, cap, cur, rfl, hb, hh, h1, h2, h3, h4⟩
  · exact ⟨none, 0, by rw [h0], by omega, .inl (List.length_eq_zero_iff.1 h0), fun _ => rfl⟩
  · refine ⟨some ⟨g, 0, none⟩, cap, rfl, h1, .inr ⟨⟨g, 0, none⟩, rfl, (Array.getElem?_eq_some_iff.1 hh).1, fun j u hj => ?_⟩, fun e => by cases e⟩
    rw [cell_at hh j]
    have hj' : j < l.length * 5 := by
      have := (List.getElem?_eq_some_iff.1 hj).1
      rwa [evs_length] at this
    rw [← h4, List.getElem?_take, if_pos hj'] at hj
    rw [← Array.getElem?_toList]
    exact hj
theorem Own.nil (w : World) (B : Nat) : Own w B (.slice none 0 0) [] := World.ownsRow_nil _ _ _ _
theorem Own.same {w w' : World} {B : Nat} {v : Value} {l : List S39} (h : Own w B v l) (hb : ∀ g, v.ownBlock = some g → w'.heap[g]? = w.heap[g]?) : Own w' B v l := by
  refine ⟨h.1, ?_⟩
  rcases h.2 with h0 | ⟨g, cap, cur, rfl, h1, hh, h2⟩
  · exact .inl h0
  · exact .inr ⟨g, cap, cur, rfl, h1, (hb g rfl).trans hh, h2⟩
theorem Own.lt {w : World} {B : Nat} {v : Value} {l : List S39} (h : Own w B v l) {g : Nat} (hg : v.ownBlock = some g) : B ≤ g ∧ g < w.heap.size ∧ ∃ cur, w.heap[g]? = some (.cells cur 39 (0, 0)) := by
  rcases h.2 with ⟨rfl, _⟩ | ⟨g', cap, cur, rfl, h1, hh, h2⟩
  · simp [Value.ownBlock] at hg
  · simp [Value.ownBlock] at hg
    subst hg
    exact ⟨h1, (Array.getElem?_eq_some_iff.1 hh).1, cur, hh⟩
theorem Own.weak {w : World} {B B' : Nat} {v : Value} {l : List S39} (h : Own w B v l) (hb : B' ≤ B) : Own w B' v l := by
  refine ⟨h.1, ?_⟩
  rcases h.2 with h0 | ⟨g, cap, cur, rfl, h1, hh, h2⟩
  · exact .inl h0
  · exact .inr ⟨g, cap, cur, rfl, by omega, hh, h2⟩
theorem Own.up {w : World} {B B' : Nat} {v : Value} {l : List S39} (h : Own w B v l) (hb : ∀ g, v.ownBlock = some g → B' ≤ g) : Own w B' v l := by
  refine ⟨h.1, ?_⟩
  rcases h.2 with h0 | ⟨g, cap, cur, rfl, h1, hh, h2⟩
  · exact .inl h0
  · exact .inr ⟨g, cap, cur, rfl, hb g rfl, hh, h2⟩
theorem zero39 : ∃ i0, Try.prog.info? 39 = some i0 ∧ i0.zero = some (.agg #[.int .i64 0, .bool false, .int .i64 0, .int .i64 0, .int .i64 0]) ∧ i0.size = 5 ∧ i0.bytes = 40 := info_parts info39
/-- append: a row of the call's own, and events that lie in memory. -/
theorem run_append {w : World} {B c : Nat} {v : Value} {L p : List S39} {A : Option Addr} (ty : TypeId) (ho : Own w B v L) (hp : Rd w A p) (hz : A = none → c = 0)
    (hl : L.length + p.length ≤ 1000000) (hB : B ≤ w.heap.size) :
    ∃ v' w', (Builtin.append_ #[22, 22] ty #[v, .slice A p.length c]).run Try.prog w = .ok v' w' ∧ Own w' B v' (L ++ p) ∧ w.grownBy w' v.ownBlock ∧ (v'.ownBlock = v.ownBlock ∨ v'.ownBlock = some w.heap.size) := by
  obtain ⟨i0, hi, hz0, hz1, hz2⟩ := zero39
  have hmk : ∀ {v' : Value} {w' : World} {m : Nat}, m = p.length → w'.ownsRow B 39 5 v' (L.length + m) (evs L ++ evs p) → Own w' B v' (L ++ p) := fun e h => by
    subst e
    unfold Own
    rw [evs_append, List.length_append]
    exact h
  cases A with
  | none =>
    obtain rfl := hz rfl
    have hp0 : p = [] := by
      rcases hp with h | ⟨ad, e, _⟩
      · exact h
      · cases e
    subst hp0
    exact ⟨v, w, run_append_owned_none (P := Try.prog) (w := w) B 22 ty 39 i0 5 Try.underlying22 hi v L.length (evs L) ho, by rw [List.append_nil]; exact ho, ⟨rfl, rfl, rfl, Nat.le_refl _, fun _ _ _ => rfl⟩, .inl rfl⟩
  | some ad =>
    have hsrc : ∀ j u, (evs p)[j]? = some u → w.cell? (ad.add j) = some u := by
      rcases hp with rfl | ⟨ad', e, _, h⟩
      · intro j u hj
        simp [evs] at hj
      · injection e with e
        subst e
        exact h
    obtain ⟨v', w', hr, h2, h3, _, h5⟩ := run_append_own_at (P := Try.prog) w B 22 ty 39 i0 _ 5 40 Try.underlying22 hi hz0 hz1 hz2 rfl (by decide) v L.length (evs L) ho ad p.length c (evs p) (evs_length p) hsrc (evs_one p) (by unfold maxLen; omega) (by omega) hB
    exact ⟨v', w', hr, hmk rfl h2, h3, h5⟩
theorem wpList_append_ev {w : World} {ops : Array Oper} {rest : List Oper} {o : Oper} {ac : Act} {Q : Exit → Act → World → Prop} (hgd : o.guard = none) (s x : Operand)
    (ho : o.op = .call { callee := .builtin .append, args := #[s, x], argTypes := #[22, 22] }) {B c : Nat} {L p : List S39} {A : Option Addr}
    (v : Value) (hs : ac.eval s = v) (hown : Own w B v L) (hx : ac.eval x = .slice A p.length c) (hp : Rd w A p) (hz : A = none → c = 0)
    (hl : L.length + p.length ≤ 1000000) (hB : B ≤ w.heap.size)
    (h : ∀ v' w', Own w' B v' (L ++ p) → w.grownBy w' v.ownBlock → (v'.ownBlock = v.ownBlock ∨ v'.ownBlock = some w.heap.size) → wpList Try.prog ops Q rest (ac.put o.dst v') w') :
    wpList Try.prog ops Q (o :: rest) ac w := by
  refine wpList_plain hgd fun K hK => ?_
  obtain ⟨v', w', hr, h2, h3, h5⟩ := run_append o.type hown hp hz hl hB
  unfold Oper.wp execOp
  simp only [ho, resolve, invoke, builtin, Sem.run_bind, Sem.run_pure, Result.andThen_ok, List.map_toArray, List.map_cons, List.map_nil, hs, hx, hr]
  exact hK _ _ (h v' w' h2 h3 h5)
theorem step_append_ev {w : World} {ops : Array Oper} {o : Oper} {ac : Act} {K : Act → World → Prop} {Q : Exit → Act → World → Prop} {E : Prop} (hgd : o.guard = none) (s x : Operand)
    (ho : o.op = .call { callee := .builtin .append, args := #[s, x], argTypes := #[22, 22] }) {B c m : Nat} {L p : List S39} {A : Option Addr}
    (v : Value) (hs : ac.eval s = v) (hown : Own w B v L) (hx : ac.eval x = .slice A m c) (hm : p.length = m) (hp : Rd w A p) (hz : A = none → c = 0)
    (hl : L.length + p.length ≤ 1000000) (hB : B ≤ w.heap.size)
    (h : ∀ v' w', Own w' B v' (L ++ p) → w.grownBy w' v.ownBlock → (v'.ownBlock = v.ownBlock ∨ v'.ownBlock = some w.heap.size) → K (ac.put o.dst v') w') :
    if Region.wanted o (yielded ops ac.tmps) = true then Oper.wp Try.prog o ac w K Q else E := by
  have hw : Region.wanted o (yielded ops ac.tmps) = true := by simp [Region.wanted, hgd]
  rw [if_pos hw]
  subst hm
  obtain ⟨v', w', hr, h2, h3, h5⟩ := run_append o.type hown hp hz hl hB
  unfold Oper.wp execOp
  simp only [ho, resolve, invoke, builtin, Sem.run_bind, Sem.run_pure, Result.andThen_ok, List.map_toArray, List.map_cons, List.map_nil, hs, hx, hr]
  exact h v' w' h2 h3 h5
end Go.Proofs.Ytaddhackggbdkaa
