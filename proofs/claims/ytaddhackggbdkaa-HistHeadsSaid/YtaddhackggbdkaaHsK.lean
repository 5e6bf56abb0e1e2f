/- Where events lead to: a plain function, and the program's way, walked. Conditions stand in each part's own head. -/
import Derived.Test.YtaddhackggbdkaaBase
import Derived.Test.YtaddhackggbdkaaHsA
import Derived.Test.YtaddhackggbdkaaHsI
/-! Where events lead to, as a plain function; rows of numbers that are a call's own, appended to and written; events read in memory; no condition. -/
namespace Go.Proofs.Ytaddhackggbdkaa
open Go.RowKit Go.Proofs.YtaddhackggbdkaaW.PrintWords Go.Proofs.YtaddhackggbdkaaW.PrintLast Go.Proofs.YtaddhackggbdkaaW.PrintMore PHistTells
/-- One event: the states, the items. -/
def stepF (K : Nat → Int) (np : Nat) (e : S39) (s d : List Int) : Option (List Int × List Int) :=
  if e.f1 = true then some (s, d)
  else if e.f3 < 0 ∨ (s.length : Int) < e.f3 ∨ e.f2 < 0 ∨ (np : Int) ≤ e.f2 then none
  else if nx (K e.f2.toNat) ((if e.f3 = (s.length : Int) then s ++ [0] else s).getD e.f3.toNat 0) e.f4 = 0 ∨ (if e.f3 = (s.length : Int) then d ++ [e.f2] else d).getD e.f3.toNat 0 ≠ e.f2 then none
  else some ((if e.f3 = (s.length : Int) then s ++ [0] else s).set e.f3.toNat (nx (K e.f2.toNat) ((if e.f3 = (s.length : Int) then s ++ [0] else s).getD e.f3.toNat 0) e.f4), if e.f3 = (s.length : Int) then d ++ [e.f2] else d)
def stF (K : Nat → Int) (np : Nat) : List S39 → List Int → List Int → Option (List Int)
  | [], s, _ => some s
  | e :: l, s, d => match stepF K np e s d with
    | none => none
    | some p => stF K np l p.1 p.2
theorem stF_cons (K : Nat → Int) (np : Nat) (e : S39) (l : List S39) (s d : List Int) : stF K np (e :: l) s d = match stepF K np e s d with
    | none => none
    | some p => stF K np l p.1 p.2 := rfl
theorem stF_file {K : Nat → Int} {np : Nat} {e : S39} {l : List S39} {s d : List Int} (h : e.f1 = true) : stF K np (e :: l) s d = stF K np l s d := by
  rw [stF_cons]
  unfold stepF
  rw [if_pos h]
theorem stF_bad {K : Nat → Int} {np : Nat} {e : S39} {l : List S39} {s d : List Int} (h1 : e.f1 = false) (h : e.f3 < 0 ∨ (s.length : Int) < e.f3 ∨ e.f2 < 0 ∨ (np : Int) ≤ e.f2) : stF K np (e :: l) s d = none := by
  rw [stF_cons]
  unfold stepF
  rw [if_neg (by rw [h1]; simp), if_pos h]
/-- The states with one more, if the event names the next instance. -/
def moreS (j : Nat) (s : List Int) : List Int := if j = s.length then s ++ [0] else s
def moreD (j n : Nat) (r : Int) (d : List Int) : List Int := if j = n then d ++ [r] else d
theorem stF_good {K : Nat → Int} {np j r : Nat} {tm mv : Int} {l : List S39} {s d : List Int} (hj : j ≤ s.length) (hr : r < np) (hn : nx (K r) ((moreS j s).getD j 0) mv ≠ 0) (hd : (moreD j s.length r d).getD j 0 = r) :
    stF K np (⟨tm, false, r, j, mv⟩ :: l) s d = stF K np l ((moreS j s).set j (nx (K r) ((moreS j s).getD j 0) mv)) (moreD j s.length r d) := by
  rw [stF_cons]
  unfold stepF
  have e1 : ((j : Int) = (s.length : Int)) = (j = s.length) := by simp [Int.natCast_inj]
  have h1 : ¬ ((j : Int) < 0 ∨ (s.length : Int) < (j : Int) ∨ (r : Int) < 0 ∨ (np : Int) ≤ (r : Int)) := by omega
  simp only [e1, Int.toNat_natCast]
  rw [if_neg (by simp), if_neg h1]
  unfold moreS at hn
  unfold moreD at hd
  rw [if_neg (by intro h; rcases h with h | h; exact hn h; exact h hd)]
  rfl
theorem stF_stop {K : Nat → Int} {np j r : Nat} {tm mv : Int} {l : List S39} {s d : List Int} (hj : j ≤ s.length) (hr : r < np) (h : nx (K r) ((moreS j s).getD j 0) mv = 0 ∨ (moreD j s.length r d).getD j 0 ≠ r) :
    stF K np (⟨tm, false, r, j, mv⟩ :: l) s d = none := by
  rw [stF_cons]
  unfold stepF
  have e1 : ((j : Int) = (s.length : Int)) = (j = s.length) := by simp [Int.natCast_inj]
  have h1 : ¬ ((j : Int) < 0 ∨ (s.length : Int) < (j : Int) ∨ (r : Int) < 0 ∨ (np : Int) ≤ (r : Int)) := by omega
  simp only [e1, Int.toNat_natCast]
  rw [if_neg (by simp), if_neg h1]
  unfold moreS moreD at h
  rw [if_pos h]
theorem moreS_length {j : Nat} {s : List Int} (h : j ≤ s.length) : j < (moreS j s).length := by
  unfold moreS
  split
  · simp
    omega
  · omega
theorem moreS_le {j : Nat} {s : List Int} : s.length ≤ (moreS j s).length ∧ (moreS j s).length ≤ s.length + 1 := by
  unfold moreS
  split
  · simp
  · omega
theorem moreD_length {j n : Nat} {r : Int} {s d : List Int} (h : s.length = d.length) (hn : n = s.length) : (moreD j n r d).length = (moreS j s).length := by
  unfold moreS moreD
  subst hn
  split
  · simp [h]
  · exact h.symm
/-! ### Rows of numbers -/
def zs (l : List Int) : List Value := l.map fun x => .int .i64 x
theorem zs_length (l : List Int) : (zs l).length = l.length := by simp [zs]
theorem zs_append (l m : List Int) : zs (l ++ m) = zs l ++ zs m := by simp [zs]
theorem zs_set (l : List Int) (i : Nat) (x : Int) : zs (l.set i x) = (zs l).set i (.int .i64 x) := by simp [zs, List.map_set]
theorem zs_get {l : List Int} {i : Nat} (h : i < l.length) : (zs l)[i]? = some (.int .i64 (l.getD i 0)) := by
  simp [zs, h]
def OwnI (w : World) (B : Nat) (v : Value) (l : List Int) : Prop := w.ownsRow B 3 1 v l.length (zs l)
theorem OwnI.nil (w : World) (B : Nat) : OwnI w B (.slice none 0 0) [] := World.ownsRow_nil _ _ _ _
theorem OwnI.same {w w' : World} {B : Nat} {v : Value} {l : List Int} (h : OwnI w B v l) (hb : ∀ g, v.ownBlock = some g → w'.heap[g]? = w.heap[g]?) : OwnI w' B v l := by
  refine ⟨h.1, ?_⟩
  rcases h.2 with h0 | ⟨g, cap, cur, rfl, h1, hh, h2⟩
  · exact .inl h0
  · exact .inr ⟨g, cap, cur, rfl, h1, (hb g rfl).trans hh, h2⟩
theorem OwnI.lt {w : World} {B : Nat} {v : Value} {l : List Int} (h : OwnI w B v l) {g : Nat} (hg : v.ownBlock = some g) : B ≤ g ∧ g < w.heap.size := by
  rcases h.2 with ⟨rfl, _⟩ | ⟨g', cap, cur, rfl, h1, hh, h2⟩
  · cases hg
  · cases hg
    exact ⟨h1, (Array.getElem?_eq_some_iff.1 hh).1⟩
theorem OwnI.below {w w' : World} {B : Nat} {v : Value} {l : List Int} (h : OwnI w B v l) (hb : Below w.heap.size w w') : OwnI w' B v l := h.same fun _ hg => hb.block _ (h.lt hg).2
theorem OwnI.far {w w' : World} {B : Nat} {v u : Value} {l : List Int} (h : OwnI w B v l) (hg : w.grownBy w' u.ownBlock) (ha : ∀ g, v.ownBlock = some g → u.ownBlock ≠ some g) : OwnI w' B v l :=
  h.same fun g e => hg.block g (h.lt e).2 fun q => ha g e q.symm
theorem OwnI.shape {w : World} {B : Nat} {v : Value} {l : List Int} (h : OwnI w B v l) : ∃ A c, v = .slice A l.length c ∧ l.length ≤ c ∧ c ≤ maxLen := by
  rcases h.2 with ⟨rfl, h0⟩ | ⟨g, cap, cur, rfl, hb, hh, h1, h2, h3, h4⟩
  · exact ⟨none, 0, by rw [h0], by omega, by decide⟩
  · exact ⟨_, cap, rfl, h1, h2⟩
/-- A number of the row: where it lies. -/
theorem OwnI.at {w : World} {B j : Nat} {v : Value} {l : List Int} (h : OwnI w B v l) (hj : j < l.length) :
    ∃ g c, v = .slice (some ⟨g, 0, none⟩) l.length c ∧ B ≤ g ∧ g < w.heap.size ∧ w.cell? ⟨g, j, none⟩ = some (.int .i64 (l.getD j 0)) ∧ w.frozen? ⟨g, j, none⟩ = false ∧ v.ownBlock = some g ∧
      ∀ y, OwnI (w.setCell ⟨g, j, none⟩ (.int .i64 y)) B v (l.set j y) := by
  rcases h.2 with ⟨rfl, h0⟩ | ⟨g, cap, cur, rfl, hb, hh, h1, h2, h3, h4⟩
  · omega
  · have hc : cur[j]? = some (.int .i64 (l.getD j 0)) := by
      have e := zs_get hj
      rw [← h4, List.getElem?_take, if_pos (by omega)] at e
      rw [← Array.getElem?_toList]
      exact e
    refine ⟨g, cap, rfl, hb, (Array.getElem?_eq_some_iff.1 hh).1, by rw [cell_of hh]; exact hc, free_of hh j, rfl, fun y => ⟨by rw [zs_length, List.length_set]; simp, .inr ⟨g, cap, cur.setIfInBounds j (.int .i64 y), by rw [List.length_set], hb, blk_set hh j _, by rw [List.length_set]; exact h1, h2, by rw [Array.size_setIfInBounds]; exact h3, ?_⟩⟩⟩
    rw [List.length_set, Array.toList_setIfInBounds, List.take_set, h4, zs_set]
theorem info3 : (Try.prog.info? 3).map (fun i => (i.zero, i.size, i.bytes)) = some (some (.int .i64 0), 1, 8) := by kernel_rfl
theorem zero3 : ∃ i0, Try.prog.info? 3 = some i0 ∧ i0.zero = some (.int .i64 0) ∧ i0.size = 1 ∧ i0.bytes = 8 := by
  have h := info3
  cases hi : Try.prog.info? 3 with
  | none => rw [hi] at h; cases h
  | some i =>
    rw [hi] at h
    simp only [Option.map_some, Option.some.injEq, Prod.mk.injEq] at h
    exact ⟨i, rfl, h⟩
theorem run_append_i {w : World} {B b : Nat} {v : Value} {l : List Int} {y : Int} (ty : TypeId) (ho : OwnI w B v l) (hy : w.cell? ⟨b, 0, none⟩ = some (.int .i64 y)) (hl : l.length + 1 ≤ 1000000) (hB : B ≤ w.heap.size) :
    ∃ v' w', (Builtin.append_ #[55, 55] ty #[v, .slice (some ⟨b, 0, none⟩) 1 1]).run Try.prog w = .ok v' w' ∧ OwnI w' B v' (l ++ [y]) ∧ w.grownBy w' v.ownBlock ∧ (v'.ownBlock = v.ownBlock ∨ v'.ownBlock = some w.heap.size) := by
  obtain ⟨i0, hi, hz0, hz1, hz2⟩ := zero3
  have hsrc : ∀ j u, [Value.int .i64 y][j]? = some u → w.cell? ((⟨b, 0, none⟩ : Addr).add j) = some u := by
    intro j u hj
    cases j with
    | zero =>
      simp at hj
      subst hj
      exact hy
    | succ j => simp at hj
  obtain ⟨v', w', hr, h2, h3, _, h5⟩ := run_append_own_at (P := Try.prog) w B 55 ty 3 i0 _ 1 8 Try.underlying55 hi hz0 hz1 hz2 rfl (by decide) v l.length (zs l) ho ⟨b, 0, none⟩ 1 1 [.int .i64 y] rfl hsrc (by simp [Value.oneCell']) (by unfold maxLen; omega) (by omega) hB
  refine ⟨v', w', hr, ?_, h3, h5⟩
  unfold OwnI
  rw [zs_append, List.length_append]
  exact h2
theorem wpList_append_i {w : World} {ops : Array Oper} {rest : List Oper} {o : Oper} {ac : Act} {Q : Exit → Act → World → Prop} (hgd : o.guard = none) (s x : Operand)
    (ho : o.op = .call { callee := .builtin .append, args := #[s, x], argTypes := #[55, 55] }) {B b : Nat} {l : List Int} {y : Int}
    (v : Value) (hs : ac.eval s = v) (hown : OwnI w B v l) (hx : ac.eval x = .slice (some ⟨b, 0, none⟩) 1 1) (hy : w.cell? ⟨b, 0, none⟩ = some (.int .i64 y)) (hl : l.length + 1 ≤ 1000000) (hB : B ≤ w.heap.size)
    (h : ∀ v' w', OwnI w' B v' (l ++ [y]) → w.grownBy w' v.ownBlock → (v'.ownBlock = v.ownBlock ∨ v'.ownBlock = some w.heap.size) → wpList Try.prog ops Q rest (ac.put o.dst v') w') :
    wpList Try.prog ops Q (o :: rest) ac w := by
  refine wpList_plain hgd fun K hK => ?_
  obtain ⟨v', w', hr, h2, h3, h5⟩ := run_append_i o.type hown hy hl hB
  unfold Oper.wp execOp
  simp only [ho, resolve, invoke, builtin, Sem.run_bind, Sem.run_pure, Result.andThen_ok, List.map_toArray, List.map_cons, List.map_nil, hs, hx, hr]
  exact hK _ _ (h v' w' h2 h3 h5)
theorem step_append_i {w : World} {ops : Array Oper} {o : Oper} {ac : Act} {K : Act → World → Prop} {Q : Exit → Act → World → Prop} {E : Prop} (hgd : o.guard = none) (s x : Operand)
    (ho : o.op = .call { callee := .builtin .append, args := #[s, x], argTypes := #[55, 55] }) {B b : Nat} {l : List Int} {y : Int}
    (v : Value) (hs : ac.eval s = v) (hown : OwnI w B v l) (hx : ac.eval x = .slice (some ⟨b, 0, none⟩) 1 1) (hy : w.cell? ⟨b, 0, none⟩ = some (.int .i64 y)) (hl : l.length + 1 ≤ 1000000) (hB : B ≤ w.heap.size)
    (h : ∀ v' w', OwnI w' B v' (l ++ [y]) → w.grownBy w' v.ownBlock → (v'.ownBlock = v.ownBlock ∨ v'.ownBlock = some w.heap.size) → K (ac.put o.dst v') w') :
    if Region.wanted o (yielded ops ac.tmps) = true then Oper.wp Try.prog o ac w K Q else E := by
  have hw : Region.wanted o (yielded ops ac.tmps) = true := by simp [Region.wanted, hgd]
  rw [if_pos hw]
  obtain ⟨v', w', hr, h2, h3, h5⟩ := run_append_i o.type hown hy hl hB
  unfold Oper.wp execOp
  simp only [ho, resolve, invoke, builtin, Sem.run_bind, Sem.run_pure, Result.andThen_ok, List.map_toArray, List.map_cons, List.map_nil, hs, hx, hr]
  exact h v' w' h2 h3 h5
/-- Two rows of one's own, that lie apart. -/
structure Two (w : World) (B : Nat) (vs vd : Value) (s d : List Int) : Prop where
  s : OwnI w B vs s
  d : OwnI w B vd d
  apart : ∀ g, vs.ownBlock = some g → vd.ownBlock ≠ some g
theorem Two.nil (w : World) (B : Nat) : Two w B (.slice none 0 0) (.slice none 0 0) [] [] := ⟨.nil _ _, .nil _ _, fun _ e => by cases e⟩
theorem Two.below {w w' : World} {B : Nat} {vs vd : Value} {s d : List Int} (h : Two w B vs vd s d) (hb : Below w.heap.size w w') : Two w' B vs vd s d := ⟨h.s.below hb, h.d.below hb, h.apart⟩
theorem Two.swap {w : World} {B : Nat} {vs vd : Value} {s d : List Int} (h : Two w B vs vd s d) : Two w B vd vs d s := ⟨h.d, h.s, fun g e q => h.apart g q e⟩
/-- The first of two rows was appended to. -/
theorem Two.grown {w w' : World} {B : Nat} {vs vd v' : Value} {s d s' : List Int} (h : Two w B vs vd s d) (ho : OwnI w' B v' s') (hg : w.grownBy w' vs.ownBlock) (hv : v'.ownBlock = vs.ownBlock ∨ v'.ownBlock = some w.heap.size) : Two w' B v' vd s' d :=
  ⟨ho, h.d.far hg fun g e q => h.apart g q e, fun g e q => by
    rcases hv with hv | hv
    · exact h.apart g (hv ▸ e) q
    · rw [hv] at e
      injection e with e
      have := (h.d.lt q).2
      omega⟩
/-- A number of the first row was written. -/
theorem Two.set {w : World} {B j : Nat} {vs vd : Value} {s d : List Int} (h : Two w B vs vd s d) (hj : j < s.length) : ∃ g c, vs = .slice (some ⟨g, 0, none⟩) s.length c ∧ B ≤ g ∧ g < w.heap.size ∧ w.cell? ⟨g, j, none⟩ = some (.int .i64 (s.getD j 0)) ∧ w.frozen? ⟨g, j, none⟩ = false ∧
    ∀ y, Two (w.setCell ⟨g, j, none⟩ (.int .i64 y)) B vs vd (s.set j y) d := by
  obtain ⟨g, c, e, hb, hlt, hc, hf, ho, hs⟩ := h.s.at hj
  refine ⟨g, c, e, hb, hlt, hc, hf, fun y => ⟨hs y, h.d.same fun g' e' => set_other _ _ _ _ ?_, h.apart⟩⟩
  intro q
  exact h.apart g ho (by rw [← show g' = g from q]; exact e')
theorem below_grown_by {B0 : Nat} {W w w' : World} {u : Value} (h : Below B0 W w) (hg : w.grownBy w' u.ownBlock) (hu : ∀ g, u.ownBlock = some g → B0 ≤ g) (hs : B0 ≤ w.heap.size) : Below B0 W w' :=
  ⟨hg.os.trans h.os, hg.tape.trans h.tape, hg.output.trans h.output, Nat.le_trans h.size hg.size, fun k hk => (hg.block k (by omega) (fun e => by have := hu k e.symm; omega)).trans (h.block k hk)⟩
/-- An event, read. -/
theorem ev_cells {W : World} {A : Option Addr} {l : List S39} {k : Nat} {x : S39} (h : Rd W A l) (hk : l[k]? = some x) :
    ∃ ad, A = some ad ∧ ∀ w, Below W.heap.size W w → w.cell? (ad.add (k * 5)) = some (.int .i64 x.f0) ∧ w.cell? ⟨(ad.add (k * 5)).block, (ad.add (k * 5)).off + 1, none⟩ = some (.bool x.f1) ∧ w.cell? ⟨(ad.add (k * 5)).block, (ad.add (k * 5)).off + 2, none⟩ = some (.int .i64 x.f2) ∧
      w.cell? ⟨(ad.add (k * 5)).block, (ad.add (k * 5)).off + 3, none⟩ = some (.int .i64 x.f3) ∧ w.cell? ⟨(ad.add (k * 5)).block, (ad.add (k * 5)).off + 4, none⟩ = some (.int .i64 x.f4) := by
  rcases h with rfl | ⟨ad, rfl, hlt, h⟩
  · simp at hk
  · refine ⟨ad, rfl, fun w hb => ?_⟩
    have key : ∀ i u, (ev x)[i]? = some u → w.cell? (ad.add (k * 5 + i)) = some u := fun i u hu => cell_below hb (by rw [add_block]; exact hlt) (h _ _ (evs_at l k x i u hk hu))
    exact ⟨key 0 _ rfl, by rw [← add_fld _ _ 1 (by omega)]; exact key 1 _ rfl, by rw [← add_fld _ _ 2 (by omega)]; exact key 2 _ rfl, by rw [← add_fld _ _ 3 (by omega)]; exact key 3 _ rfl, by rw [← add_fld _ _ 4 (by omega)]; exact key 4 _ rfl⟩
/-- The kind of a plan's item. -/
def kindOf (W : World) (A : Option Addr) (i : Nat) : Int := match A with
  | none => 0
  | some ad => match W.cell? ⟨(ad.add (i * 8)).block, (ad.add (i * 8)).off + 1, none⟩ with
    | some (.int .i64 k) => k
    | _ => 0
theorem kind_is {W : World} {A : Option Addr} {l c i : Nat} (h : Row W (ItemOk W) 8 A l c) (hi : i < l) : ∃ ad, A = some ad ∧ ∀ w, Below W.heap.size W w → w.cell? ⟨(ad.add (i * 8)).block, (ad.add (i * 8)).off + 1, none⟩ = some (.int .i64 (kindOf W A i)) := by
  obtain ⟨ad, x, e, hx, hc⟩ := h.item hi
  refine ⟨ad, e, fun w hb => ?_⟩
  have h0 := (hc W (Below.refl _ _)).2.1
  have h1 := (hc w hb).2.1
  have : kindOf W A i = x.k := by
    rw [e]
    simp only [kindOf, h0]
  rw [this]
  exact h1
end Go.Proofs.Ytaddhackggbdkaa
/-! Where events lead to, the program's way, walked; conditions: the model and the events lie in the world, of events there are at most 200. -/
namespace Go.Proofs.Ytaddhackggbdkaa
open Go.RowKit Go.Proofs.YtaddhackggbdkaaW.PrintWords Go.Proofs.YtaddhackggbdkaaW.PrintLast Go.Proofs.YtaddhackggbdkaaW.PrintMore PHistTells
set_option maxRecDepth 100000
set_option linter.unusedSimpArgs false
/-- What comes back: the states, in a row of one's own; or nothing. -/
def ResS (o : Option (List Int)) (B : Nat) (e : Ending) (w' : World) : Prop := match o with
  | none => e = .returned (.tuple #[.slice none 0 0, .bool false])
  | some s => ∃ v, e = .returned (.tuple #[v, .bool true]) ∧ OwnI w' B v s
set_option maxHeartbeats 4000000 in
theorem states31 (W : World) (M : Mod) (hM : ModOk W M) (A : Option Addr) (l : List S39) (c : Nat) (hR : Rd W A l) (hl : l.length ≤ 200) (w : World) (hw : Below W.heap.size W w) :
    Calls Try.prog 31 #[M.v, .slice A l.length c] w fun e w' => ResS (stF (kindOf W M.A2) M.l2 l [] []) (w.heap.size + 1) e w' ∧ Below w.heap.size w w' := by
  obtain ⟨A0, l0, c0, A1, l1, c1, A2, l2, c2⟩ := M
  have hle2 : l2 ≤ 9223372036854775807 := hM.plan.le
  have HKD : Hid (∀ i, i < l2 → ∃ ad, A2 = some ad ∧ ∀ w, Below W.heap.size W w → w.cell? ⟨(ad.add (i * 8)).block, (ad.add (i * 8)).off + 1, none⟩ = some (.int .i64 (kindOf W A2 i))) := Lib.hid (fun i hi => kind_is hM.plan hi)
  show Calls Try.prog 31 #[Mod.v ⟨A0, l0, c0, A1, l1, c1, A2, l2, c2⟩, .slice A l.length c] w fun e w' => ResS (stF (kindOf W A2) l2 l [] []) (w.heap.size + 1) e w' ∧ Below w.heap.size w w'
  unfold Mod.v
  generalize kindOf W A2 = K at HKD ⊢
  obtain ⟨o, ho⟩ : ∃ o, stF K l2 l [] [] = o := ⟨_, rfl⟩
  rw [ho]
  have HO := Lib.hid ho
  have HR := Lib.hid hR
  have HW := Lib.hid hw.size
  have H1 : Hid (Below w.heap.size w (w.alloc (.cells #[.slice A0 l0 c0, .slice A1 l1 c1, .slice A2 l2 c2] 53)) ∧ (w.alloc (.cells #[.slice A0 l0 c0, .slice A1 l1 c1, .slice A2 l2 c2] 53)).heap[w.heap.size]? = some (.cells #[.slice A0 l0 c0, .slice A1 l1 c1, .slice A2 l2 c2] 53 (0, 0)) ∧ Below W.heap.size W (w.alloc (.cells #[.slice A0 l0 c0, .slice A1 l1 c1, .slice A2 l2 c2] 53)) ∧ w.heap.size + 1 ≤ (w.alloc (.cells #[.slice A0 l0 c0, .slice A1 l1 c1, .slice A2 l2 c2] 53)).heap.size) :=
    Lib.hid ⟨(Below.refl _ _).alloc (Nat.le_refl _) _, heap_alloc_new w _, hw.alloc hw.size _, by simp⟩
  clear hM hw hR ho
  go_enter Try.func31, Try.ntmps31
  go_upto_block 0 with fail
  generalize w.alloc (.cells #[.slice A0 l0 c0, .slice A1 l1 c1, .slice A2 l2 c2] 53) = W1 at H1 ⊢
  have HLW : Hid (∀ w', Below (w.heap.size + 1) W1 w' → Below W.heap.size W w' ∧ Below w.heap.size w w' ∧ w'.cell? ⟨w.heap.size, 2, none⟩ = some (.slice A2 l2 c2) ∧ w.heap.size + 1 ≤ w'.heap.size) := Lib.hid (fun w' hb => by
    have h1 := HW.out
    exact ⟨H1.out.2.2.1.trans (hb.mono (by omega)), H1.out.1.trans (hb.mono (by omega)), cell_of ((hb.block w.heap.size (by omega)).trans H1.out.2.1) 2, Nat.le_trans H1.out.2.2.2 hb.size⟩)
  go_wp2_with fail
  go_loopg [6, 7, 14] l.length (fun g vd vs i wr => ∃ k : Nat, k ≤ l.length ∧ g + k = l.length ∧ i = .int .i64 k ∧ ∃ s d, Hid (Two wr (w.heap.size + 1) vs vd s d ∧ s.length = d.length ∧ s.length ≤ k ∧ stF K l2 (l.drop k) s d = o ∧ Below (w.heap.size + 1) W1 wr))
  case atStart => exact ⟨0, Nat.zero_le _, by omega, rfl, [], [], Lib.hid ⟨Two.nil _ _, rfl, Nat.zero_le _, HO.out, Below.refl _ _⟩⟩
  case round =>
    obtain ⟨k, hk, hg, rfl, s, d, HI⟩ := hrel
    have HG := Lib.hid hg
    clear hg
    obtain ⟨As, cs, es, hs1, hs2⟩ := HI.out.1.s.shape
    obtain ⟨Ad, cd, ed, hd1, hd2⟩ := HI.out.1.d.shape
    subst es ed
    by_cases hlt : k < l.length
    rotate_left
    · go_wp2_with fail
      go_ret2
      refine ⟨?_, (HLW.out _ HI.out.2.2.2.2).2.1⟩
      have h0 := HI.out.2.2.2.1
      rw [List.drop_eq_nil_of_le (by omega)] at h0
      rw [← h0]
      exact ⟨_, rfl, HI.out.1.s⟩
    obtain ⟨x, hx⟩ : ∃ x, l[k]? = some x := ⟨l[k], List.getElem?_eq_getElem hlt⟩
    have hdr : l.drop k = x :: l.drop (k + 1) := by
      rw [List.drop_eq_getElem_cons hlt]
      congr 1
      rw [List.getElem?_eq_getElem hlt] at hx
      exact Option.some.inj hx
    have HDR := Lib.hid hdr
    obtain ⟨ad, rfl, hc⟩ := ev_cells HR.out hx
    clear hx hdr
    obtain ⟨d0, d1, d2, d3, d4⟩ := hc wr (HLW.out _ HI.out.2.2.2.2).1
    clear hc
    obtain ⟨tm, fl, rf, ins, mv⟩ := x
    simp only at d0 d1 d2 d3 d4
    go_upto_region 5 with fail
    have H6 : Hid (Two (wr.alloc (.cells #[.int .i64 tm, .bool fl, .int .i64 rf, .int .i64 ins, .int .i64 mv] 39)) (w.heap.size + 1) (.slice As s.length cs) (.slice Ad d.length cd) s d ∧ Below (w.heap.size + 1) W1 (wr.alloc (.cells #[.int .i64 tm, .bool fl, .int .i64 rf, .int .i64 ins, .int .i64 mv] 39)) ∧ (wr.alloc (.cells #[.int .i64 tm, .bool fl, .int .i64 rf, .int .i64 ins, .int .i64 mv] 39)).heap[wr.heap.size]? = some (.cells #[.int .i64 tm, .bool fl, .int .i64 rf, .int .i64 ins, .int .i64 mv] 39 (0, 0)) ∧
        (∀ g, (Value.slice As s.length cs).ownBlock = some g → g < wr.heap.size) ∧ (∀ g, (Value.slice Ad d.length cd).ownBlock = some g → g < wr.heap.size) ∧ w.heap.size + 1 ≤ wr.heap.size) :=
      Lib.hid ⟨HI.out.1.below ((Below.refl _ _).alloc (Nat.le_refl _) _), HI.out.2.2.2.2.alloc (HLW.out _ HI.out.2.2.2.2).2.2.2 _, heap_alloc_new wr _, fun g e => (HI.out.1.s.lt e).2, fun g e => (HI.out.1.d.lt e).2, (HLW.out _ HI.out.2.2.2.2).2.2.2⟩
    have HJ : Hid (s.length = d.length ∧ s.length ≤ k ∧ stF K l2 (l.drop k) s d = o) := Lib.hid ⟨HI.out.2.1, HI.out.2.2.1, HI.out.2.2.2.1⟩
    clear d0 d1 d2 d3 d4 HI
    generalize hb9 : wr.heap.size = b9 at H6 ⊢
    generalize wr.alloc (.cells #[.int .i64 tm, .bool fl, .int .i64 rf, .int .i64 ins, .int .i64 mv] 39) = W6 at H6 ⊢
    clear hb9
    have hsk := HJ.out.2.1
    have e1 := cell_of H6.out.2.2.1 1
    cases fl
    rotate_left
    · go_wp2_with fail
      go_roundg (l.length - (k + 1))
      case rel => exact ⟨k + 1, by omega, by omega, by first | rfl | rw [w64 (by omega) (by omega)], s, d, Lib.hid ⟨H6.out.1, HJ.out.1, by omega, by rw [← HJ.out.2.2, HDR.out]; exact (stF_file rfl).symm, H6.out.2.1⟩⟩
      case measure => have := HG.out; omega
    have e2 := cell_of H6.out.2.2.1 2
    have e3 := cell_of H6.out.2.2.1 3
    have m2 := (HLW.out _ H6.out.2.1).2.2.1
    by_cases hbad : ins < 0 ∨ (s.length : Int) < ins ∨ rf < 0 ∨ (l2 : Int) ≤ rf
    · have HN : Hid (o = none) := Lib.hid (by rw [← HJ.out.2.2, HDR.out]; exact stF_bad rfl hbad)
      rw [HJ.out.1] at hbad
      rcases (by omega : ins < 0 ∨ (0 ≤ ins ∧ (d.length : Int) < ins) ∨ (0 ≤ ins ∧ ins ≤ (d.length : Int) ∧ rf < 0) ∨ (0 ≤ ins ∧ ins ≤ (d.length : Int) ∧ 0 ≤ rf ∧ (l2 : Int) ≤ rf)) with h | ⟨h1, h2⟩ | ⟨h1, h2, h3⟩ | ⟨h1, h2, h3, h4⟩
      all_goals
        clear hbad
        go_wp2_with fail
        go_ret2
        refine ⟨?_, (HLW.out _ H6.out.2.1).2.1⟩
        rw [HN.out]
        rfl
    obtain ⟨j, hj⟩ := Int.eq_ofNat_of_zero_le (by omega : 0 ≤ ins)
    obtain ⟨r, hr⟩ := Int.eq_ofNat_of_zero_le (by omega : 0 ≤ rf)
    subst hj hr
    have hj1 : j ≤ s.length := by omega
    have hr1 : r < l2 := by omega
    have hj2 : (j : Int) ≤ (d.length : Int) := by have := HJ.out.1; omega
    have hr2 : (r : Int) < (l2 : Int) := by omega
    clear hbad
    obtain ⟨s1, es1⟩ : ∃ s1, moreS j s = s1 := ⟨_, rfl⟩
    obtain ⟨d1, ed1⟩ : ∃ d1, moreD j s.length r d = d1 := ⟨_, rfl⟩
    have hjs : j < s1.length := by rw [← es1]; exact moreS_length hj1
    have hls : s1.length = d1.length := by rw [← es1, ← ed1]; exact (moreD_length HJ.out.1 rfl).symm
    have hlk : s1.length ≤ k + 1 := by have := (moreS_le (j := j) (s := s)).2; rw [← es1]; omega
    have ES := Lib.hid es1
    have HLS := Lib.hid hls
    have ED := Lib.hid ed1
    clear es1 ed1 hls
    go_upto_if 47 with fail
    clear e1 e2 e3 m2
    go_cut [6, 7] from 15 to 91 (fun vd vs wx => Hid (Two wx (w.heap.size + 1) vs vd s1 d1 ∧ Below (w.heap.size + 1) W1 wx ∧ wx.heap[b9]? = some (.cells #[.int .i64 tm, .bool false, .int .i64 r, .int .i64 j, .int .i64 mv] 39 (0, 0))))
    case first =>
      by_cases hjn : j = s.length
      · have hjd : (j : Int) = (d.length : Int) := by have := HJ.out.1; omega
        have hs1e : s1 = s ++ [0] := by rw [← ES.out]; unfold moreS; rw [if_pos hjn]
        have hd1e : d1 = d ++ [(r : Int)] := by rw [← ED.out]; unfold moreD; rw [if_pos hjn]
        have H7 : Hid (Two (W6.alloc (.cells #[.int .i64 r] 3)) (w.heap.size + 1) (.slice As s.length cs) (.slice Ad d.length cd) s d ∧ Below (w.heap.size + 1) W1 (W6.alloc (.cells #[.int .i64 r] 3)) ∧ (W6.alloc (.cells #[.int .i64 r] 3)).heap[b9]? = some (.cells #[.int .i64 tm, .bool false, .int .i64 r, .int .i64 j, .int .i64 mv] 39 (0, 0)) ∧ w.heap.size + 1 ≤ (W6.alloc (.cells #[.int .i64 r] 3)).heap.size ∧ (W6.alloc (.cells #[.int .i64 r] 3)).cell? ⟨W6.heap.size, 0, none⟩ = some (.int .i64 r)) :=
          Lib.hid ⟨H6.out.1.below ((Below.refl _ _).alloc (Nat.le_refl _) _), H6.out.2.1.alloc (HLW.out _ H6.out.2.1).2.2.2 _, stays H6.out.2.2.1 ((Below.refl _ _).alloc (Nat.le_refl _) _), (HLW.out _ (H6.out.2.1.alloc (HLW.out _ H6.out.2.1).2.2.2 _)).2.2.2, cell_of (heap_alloc_new W6 _) 0⟩
        have HE := Lib.hid (And.intro hs1e hd1e)
        clear hs1e hd1e hjn
        have e2 := cell_of H6.out.2.2.1 2
        go_wp2_with (first
          | (at_builtin
             refine wpList_append_i rfl _ _ rfl (.slice Ad d.length cd) rfl H7.out.1.d rfl H7.out.2.2.2.2 (by have := HJ.out.1; omega) H7.out.2.2.2.1 ?_
             intro v' w' ho hgr hv
             have H8 : Hid (∀ u, Two (w'.alloc u) (w.heap.size + 1) (.slice As s.length cs) v' s (d ++ [(r : Int)]) ∧ Below (w.heap.size + 1) W1 (w'.alloc u) ∧ (w'.alloc u).heap[b9]? = some (.cells #[.int .i64 tm, .bool false, .int .i64 r, .int .i64 j, .int .i64 mv] 39 (0, 0)) ∧ w.heap.size + 1 ≤ (w'.alloc u).heap.size) := Lib.hid (fun u => by
               have ht := (H7.out.1.swap.grown ho hgr hv).swap
               have hb := below_grown_by H7.out.2.1 hgr (fun g e => (H7.out.1.d.lt e).1) H7.out.2.2.2.1
               have hblk : w'.heap[b9]? = some (.cells #[.int .i64 tm, .bool false, .int .i64 r, .int .i64 j, .int .i64 mv] 39 (0, 0)) := (hgr.block b9 (Array.getElem?_eq_some_iff.1 H7.out.2.2.1).1 (fun e => by have := H6.out.2.2.2.2.1 b9 e.symm; omega)).trans H7.out.2.2.1
               exact ⟨ht.below ((Below.refl _ _).alloc (Nat.le_refl _) _), hb.alloc (HLW.out _ hb).2.2.2 _, stays hblk ((Below.refl _ _).alloc (Nat.le_refl _) _), (HLW.out _ (hb.alloc (HLW.out _ hb).2.2.2 _)).2.2.2⟩)
             clear ho hgr hv)
          | (at_builtin
             refine wpList_append_i rfl _ _ rfl (.slice As s.length cs) rfl (H8.out (.cells #[.int .i64 0] 3)).1.s rfl (cell_of (heap_alloc_new _ _) 0) (by omega) (H8.out (.cells #[.int .i64 0] 3)).2.2.2 ?_
             intro v2 w2 ho hgr hv
             have H9 : Hid (Two w2 (w.heap.size + 1) v2 v' s1 d1 ∧ Below (w.heap.size + 1) W1 w2 ∧ w2.heap[b9]? = some (.cells #[.int .i64 tm, .bool false, .int .i64 r, .int .i64 j, .int .i64 mv] 39 (0, 0))) := Lib.hid (by
               have ht := (H8.out (.cells #[.int .i64 0] 3)).1.grown ho hgr hv
               rw [HE.out.1, HE.out.2]
               exact ⟨ht, below_grown_by (H8.out (.cells #[.int .i64 0] 3)).2.1 hgr (fun g e => ((H8.out (.cells #[.int .i64 0] 3)).1.s.lt e).1) (H8.out (.cells #[.int .i64 0] 3)).2.2.2, (hgr.block b9 (Array.getElem?_eq_some_iff.1 (H8.out (.cells #[.int .i64 0] 3)).2.2.1).1 (fun e => by have := H6.out.2.2.2.1 b9 e.symm; omega)).trans (H8.out (.cells #[.int .i64 0] 3)).2.2.1⟩)
             clear ho hgr hv))
        go_meet
        exact H9
      · have hjd : ¬ (j : Int) = (d.length : Int) := by have := HJ.out.1; omega
        have hs1e : s1 = s := by rw [← ES.out]; unfold moreS; rw [if_neg hjn]
        have hd1e : d1 = d := by rw [← ED.out]; unfold moreD; rw [if_neg hjn]
        have HE := Lib.hid (And.intro hs1e hd1e)
        clear hs1e hd1e hjn
        go_wp2_with fail
        go_meet
        exact Lib.hid ⟨by rw [HE.out.1, HE.out.2]; exact H6.out.1, H6.out.2.1, H6.out.2.2.1⟩
    case rest =>
      have HT := hcut
      clear hcut H6
      obtain ⟨g, cg, evs, -, -, hcs, -, -⟩ := HT.out.1.set hjs
      subst evs
      obtain ⟨sj, esj⟩ : ∃ x, s1.getD j 0 = x := ⟨_, rfl⟩
      rw [esj] at hcs
      have HSJ := Lib.hid esj
      clear esj
      obtain ⟨g', cg', evd, -, -, hcd, -, -⟩ := HT.out.1.swap.set (by rw [← HLS.out]; exact hjs)
      subst evd
      obtain ⟨dj, edj⟩ : ∃ x, d1.getD j 0 = x := ⟨_, rfl⟩
      rw [edj] at hcd
      have HDJ := Lib.hid edj
      clear edj
      obtain ⟨adp, eA2, hkc⟩ := HKD.out r hr1
      subst eA2
      have hjd : j < d1.length := by rw [← HLS.out]; exact hjs
      have hkm := hkc wc (HLW.out _ HT.out.2.1).1
      have m2 := (HLW.out _ HT.out.2.1).2.2.1
      have e2 := cell_of HT.out.2.2 2
      have e3 := cell_of HT.out.2.2 3
      have e4 := cell_of HT.out.2.2 4
      have HFS : Hid (∀ w', Below wc.heap.size wc w' → w'.cell? ⟨w.heap.size, 2, none⟩ = some (.slice (some adp) l2 c2) ∧ w'.cell? ⟨b9, 2, none⟩ = some (.int .i64 r) ∧ w'.cell? ⟨b9, 3, none⟩ = some (.int .i64 j) ∧ w'.cell? ⟨b9, 4, none⟩ = some (.int .i64 mv) ∧ w'.cell? ⟨(adp.add (r * 8)).block, (adp.add (r * 8)).off + 1, none⟩ = some (.int .i64 (K r)) ∧ w'.cell? ⟨g, j, none⟩ = some (.int .i64 sj)) := Lib.hid (fun w' hb => ⟨cell_below hb (lt_of_cell m2) m2, cell_below hb (lt_of_cell e2) e2, cell_below hb (lt_of_cell e3) e3, cell_below hb (lt_of_cell e4) e4, cell_below hb (lt_of_cell hkm) hkm, cell_below hb (lt_of_cell hcs) hcs⟩)
      obtain ⟨q, hq⟩ : ∃ q, nx (K r) sj mv = q := ⟨_, rfl⟩
      obtain ⟨bq, hbq⟩ : ∃ bq, decide (q ≠ 0) = bq := ⟨_, rfl⟩
      have HN47 : Hid (∀ w, Calls Try.prog 47 #[.int .i64 (K r), .int .i64 sj, .int .i64 mv] w fun e w' => e = .returned (.tuple #[.int .i64 q, .bool bq]) ∧ w' = w) := Lib.hid (fun w => by
        rw [← hbq, ← hq]
        exact next47 (K r) sj mv w)
      have HQ := Lib.hid (And.intro hq hbq)
      clear hq hbq
      have hji : (0 : Int) ≤ (j : Int) := by omega
      go_upto_region 10 with fail
      go_region_held3 (fun w' => w'.cell? ⟨w.heap.size, 2, none⟩ = some (.slice (some adp) l2 c2) ∧ w'.cell? ⟨b9, 2, none⟩ = some (.int .i64 r) ∧ w'.cell? ⟨b9, 3, none⟩ = some (.int .i64 j) ∧ w'.cell? ⟨b9, 4, none⟩ = some (.int .i64 mv) ∧ w'.cell? ⟨(adp.add (r * 8)).block, (adp.add (r * 8)).off + 1, none⟩ = some (.int .i64 (K r)) ∧ w'.cell? ⟨g, j, none⟩ = some (.int .i64 sj)) (exact HFS.out _ (Below.refl _ _).drew)
        (first | (go_at_call 47; refine (HN47.out _).mono ?_; rintro e w2 ⟨rfl, rfl⟩))
      have HT7 : Hid (Two wc.drew (w.heap.size + 1) (.slice (some ⟨g, 0, none⟩) s1.length cg) (.slice (some ⟨g', 0, none⟩) d1.length cg') s1 d1 ∧ Below (w.heap.size + 1) W1 wc.drew ∧ wc.drew.heap[b9]? = some (.cells #[.int .i64 tm, .bool false, .int .i64 r, .int .i64 j, .int .i64 mv] 39 (0, 0)) ∧ wc.drew.cell? ⟨g', j, none⟩ = some (.int .i64 dj)) :=
        Lib.hid ⟨HT.out.1.below (Below.refl _ _).drew, HT.out.2.1.drew, stays HT.out.2.2 (Below.refl _ _).drew, hcd⟩
      generalize wc.drew = w7 at HT7 ⊢
      clear m2 e2 e3 e4 hkm hcs hcd HFS HT
      cases bq
      · have HN : Hid (o = none) := Lib.hid (by
          rw [← HJ.out.2.2, HDR.out]
          refine stF_stop hj1 hr1 (.inl ?_)
          rw [ES.out, HSJ.out, HQ.out.1]
          have := HQ.out.2
          simpa using this)
        go_wp2_with fail
        go_quiet (fail)
        have HB8 := Lib.hid (below_drewN HT7.out.2.1 nq)
        generalize World.drewN _ nq = w8 at HB8 ⊢
        go_wp2_with fail
        go_ret2
        refine ⟨?_, (HLW.out _ HB8.out).2.1⟩
        rw [HN.out]
        rfl
      have HQ0 : Hid (q ≠ 0) := Lib.hid (by have := HQ.out.2; simpa using this)
      have e2 := cell_of HT7.out.2.2.1 2
      have e3 := cell_of HT7.out.2.2.1 3
      have hcd := HT7.out.2.2.2
      by_cases hdj : dj = (r : Int)
      rotate_left
      · have HN : Hid (o = none) := Lib.hid (by
          rw [← HJ.out.2.2, HDR.out]
          refine stF_stop hj1 hr1 (.inr ?_)
          rw [ED.out, HDJ.out]
          exact hdj)
        have hdf : (dj != (r : Int)) = true := by simpa using hdj
        have hdg : (dj == (r : Int)) = false := by simpa using hdj
        clear hdj
        go_wp2_with fail
        go_quiet (fail)
        have HB8 := Lib.hid (below_drewN HT7.out.2.1 nq)
        generalize World.drewN _ nq = w8 at HB8 ⊢
        clear e2 e3 hcd
        go_wp2_with fail
        go_ret2
        refine ⟨?_, (HLW.out _ HB8.out).2.1⟩
        rw [HN.out]
        rfl
      have HDR2 := Lib.hid hdj
      have hdf : (dj != (r : Int)) = false := by simpa using hdj
      have hdg : (dj == (r : Int)) = true := by simpa using hdj
      clear hdj
      go_wp2_with fail
      go_quiet (fail)
      have HT8 : Hid (Two (w7.drewN nq) (w.heap.size + 1) (.slice (some ⟨g, 0, none⟩) s1.length cg) (.slice (some ⟨g', 0, none⟩) d1.length cg') s1 d1 ∧ Below (w.heap.size + 1) W1 (w7.drewN nq) ∧ (w7.drewN nq).heap[b9]? = some (.cells #[.int .i64 tm, .bool false, .int .i64 r, .int .i64 j, .int .i64 mv] 39 (0, 0))) :=
        Lib.hid ⟨HT7.out.1.below (below_drewN (Below.refl _ _) nq), below_drewN HT7.out.2.1 nq, stays HT7.out.2.2.1 (below_drewN (Below.refl _ _) nq)⟩
      generalize w7.drewN nq = w8 at HT8 ⊢
      clear e2 e3 hcd
      have e3 := cell_of HT8.out.2.2 3
      obtain ⟨g2, cg2, ev2, hgb, -, hcs, hfs, hset⟩ := HT8.out.1.set hjs
      injection ev2 with ev2 _ ec2
      injection ev2 with ev2
      injection ev2 with ev2 _ _
      subst ev2 ec2
      have HSET := Lib.hid hset
      have HGB := Lib.hid hgb
      clear hset hgb
      go_wp2_with fail
      go_roundg (l.length - (k + 1))
      case rel => exact ⟨k + 1, by omega, by omega, by first | rfl | rw [w64 (by omega) (by omega)], s1.set j q, d1, Lib.hid ⟨HSET.out q, by rw [List.length_set]; exact HLS.out, by rw [List.length_set]; exact hlk, by
        rw [← HJ.out.2.2, HDR.out, stF_good hj1 hr1 (by rw [ES.out, HSJ.out, HQ.out.1]; exact HQ0.out) (by rw [ED.out, HDJ.out]; exact HDR2.out), ES.out, ED.out, HSJ.out, HQ.out.1], HT8.out.2.1.setCell HGB.out _⟩⟩
      case measure => have := HG.out; omega
end Go.Proofs.Ytaddhackggbdkaa
