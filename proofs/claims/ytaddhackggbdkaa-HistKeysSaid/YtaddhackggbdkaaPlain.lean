/- What the answer's functions on events answer in the end: plain Lean over the printed models, then their contracts; conditions: the events lie in memory. -/
import Derived.Test.YtaddhackggbdkaaKnown
namespace Go.Proofs.Ytaddhackggbdkaa
open Go.RowKit Go.Maps Go.Proofs.YtaddhackggbdkaaW.PrintWords Go.Proofs.YtaddhackggbdkaaW.PrintLast Go.Proofs.YtaddhackggbdkaaW.PrintMore PHistTells
/-- With rounds enough f answers r. -/
def Ev {α : Type} (f : Nat → Option α) (r : α) : Prop := ∃ K, ∀ k, K ≤ k → f k = some r
theorem Ev.now {α : Type} (r : α) : Ev (fun _ => some r) r := ⟨0, fun _ _ => rfl⟩
theorem Ev.succ {α : Type} {F G : Nat → Option α} {r : α} (hs : ∀ k, F (k + 1) = G k) : Ev G r → Ev F r
  | ⟨K, h⟩ => ⟨K + 1, fun k hk => by
    obtain ⟨j, rfl⟩ : ∃ j, k = j + 1 := ⟨k - 1, by omega⟩
    rw [hs]
    exact h j (by omega)⟩
theorem Ev.get {α : Type} {f : Nat → Option α} {r : α} : Ev f r → ∃ k, f k = some r
  | ⟨K, h⟩ => ⟨K, h K (Nat.le_refl _)⟩
theorem up {i : Nat} (h : i ≤ 1000000) : wrap64 ((i : Int) + 1) = ((i + 1 : Nat) : Int) := by
  unfold wrap64
  omega
def bx (l : List S39) (i : Nat) : S39 := l.getD i z39
theorem rd_bx (l : List S39) (i : Nat) : rd_T39 l (i : Int) = bx l i := by simp [rd_T39, bx]
theorem drop_bx {l : List S39} {i : Nat} (h : i < l.length) : l.drop i = bx l i :: l.drop (i + 1) := by
  rw [List.drop_eq_getElem_cons h]
  simp [bx, List.getD, h]
theorem same_ev (l : List S39) (hl : l.length ≤ 1000) : Ev (fun k => dossierref16_Same.f k l l) true := by
  have hloop : ∀ (n i : Nat), i + n = l.length → Ev (fun k => dossierref16_Same.l0 k l l (i : Int)) true := by
    intro n
    induction n with
    | zero => exact fun i e => Ev.succ (G := fun _ => some true) (fun k => by rw [dossierref16_Same.l0, if_neg (by omega)]) (Ev.now _)
    | succ n ih =>
      intro i e
      refine Ev.succ (fun k => by rw [dossierref16_Same.l0, if_pos (by omega), if_pos (by omega), if_pos (by omega), if_neg (by simp), up (by omega)]) (ih (i + 1) (by omega))
  obtain ⟨K, h⟩ := hloop l.length 0 (by omega)
  exact ⟨K, fun k hk => by dsimp only; unfold dossierref16_Same.f; rw [if_pos rfl]; exact h k hk⟩
def pOf (f : Bool) (r : Int) (x : S39) : Bool := (x.f1 == f) && decide (x.f2 = r)
def pInst (n : Int) (x : S39) : Bool := !x.f1 && decide (x.f3 = n)
def pBet (a b : Int) (x : S39) : Bool := decide (a ≤ x.f0) && decide (x.f0 ≤ b)
theorem of_ev (l : List S39) (f : Bool) (r : Int) (hl : l.length ≤ 1000) : Ev (fun k => dossierref16_Of.f k l f r) (l.filter (pOf f r)) := by
  have hloop : ∀ (n i : Nat) (acc : List S39), i + n = l.length → acc.length ≤ i → Ev (fun k => dossierref16_Of.l0 k l f r acc (i : Int)) (acc ++ (l.drop i).filter (pOf f r)) := by
    intro n
    induction n with
    | zero =>
      intro i acc e _
      rw [List.drop_of_length_le (by omega)]
      refine Ev.succ (G := fun _ => some (acc ++ [].filter (pOf f r))) (fun k => by rw [dossierref16_Of.l0, if_neg (by omega)]; simp) (Ev.now _)
    | succ n ih =>
      intro i acc e ha
      rw [drop_bx (by omega)]
      have hc : ∀ k, dossierref16_Of.l0 (k + 1) l f r acc (i : Int) = if ((bx l i).f1 == f) = true then (if (bx l i).f2 = r then dossierref16_Of.l0 k l f r (acc ++ [bx l i]) ((i + 1 : Nat) : Int) else dossierref16_Of.l0 k l f r acc ((i + 1 : Nat) : Int)) else dossierref16_Of.l0 k l f r acc ((i + 1 : Nat) : Int) := fun k => by
        rw [dossierref16_Of.l0, if_pos (by omega), if_pos (by omega), if_pos (show acc.length < 3518437208883 by omega)]
        simp only [rd_bx, up (show i ≤ 1000000 by omega)]
      by_cases h1 : ((bx l i).f1 == f) = true
      · by_cases h2 : (bx l i).f2 = r
        · rw [List.filter_cons, if_pos (by simp [pOf, h1, h2])]
          have := ih (i + 1) (acc ++ [bx l i]) (by omega) (by simp; omega)
          rw [List.append_assoc] at this
          exact Ev.succ (fun k => by rw [hc, if_pos h1, if_pos h2]) this
        · rw [List.filter_cons, if_neg (by simp [pOf, h2])]
          exact Ev.succ (fun k => by rw [hc, if_pos h1, if_neg h2]) (ih (i + 1) acc (by omega) (by omega))
      · rw [List.filter_cons, if_neg (by simp only [pOf, Bool.and_eq_true]; exact fun h => h1 h.1)]
        exact Ev.succ (fun k => by rw [hc, if_neg h1]) (ih (i + 1) acc (by omega) (by omega))
  obtain ⟨K, h⟩ := hloop l.length 0 [] (by omega) (by simp)
  exact ⟨K, fun k hk => by unfold dossierref16_Of.f; exact h k hk⟩
theorem inst_ev (l : List S39) (m : Int) (hl : l.length ≤ 1000) : Ev (fun k => dossierref16_Inst.f k l m) (l.filter (pInst m)) := by
  have hloop : ∀ (n i : Nat) (acc : List S39), i + n = l.length → acc.length ≤ i → Ev (fun k => dossierref16_Inst.l0 k l m acc (i : Int)) (acc ++ (l.drop i).filter (pInst m)) := by
    intro n
    induction n with
    | zero =>
      intro i acc e _
      rw [List.drop_of_length_le (by omega)]
      refine Ev.succ (G := fun _ => some (acc ++ [].filter (pInst m))) (fun k => by rw [dossierref16_Inst.l0, if_neg (by omega)]; simp) (Ev.now _)
    | succ n ih =>
      intro i acc e ha
      rw [drop_bx (by omega)]
      have hc : ∀ k, dossierref16_Inst.l0 (k + 1) l m acc (i : Int) = if (bx l i).f1 = true then dossierref16_Inst.l0 k l m acc ((i + 1 : Nat) : Int) else (if (bx l i).f3 = m then dossierref16_Inst.l0 k l m (acc ++ [bx l i]) ((i + 1 : Nat) : Int) else dossierref16_Inst.l0 k l m acc ((i + 1 : Nat) : Int)) := fun k => by
        rw [dossierref16_Inst.l0, if_pos (by omega), if_pos (by omega), if_pos (show acc.length < 3518437208883 by omega)]
        simp only [rd_bx, up (show i ≤ 1000000 by omega)]
      by_cases h1 : (bx l i).f1 = true
      · rw [List.filter_cons, if_neg (by simp [pInst, h1])]
        exact Ev.succ (fun k => by rw [hc, if_pos h1]) (ih (i + 1) acc (by omega) (by omega))
      · by_cases h2 : (bx l i).f3 = m
        · rw [List.filter_cons, if_pos (by simp [pInst, h1, h2])]
          have := ih (i + 1) (acc ++ [bx l i]) (by omega) (by simp; omega)
          rw [List.append_assoc] at this
          exact Ev.succ (fun k => by rw [hc, if_neg h1, if_pos h2]) this
        · rw [List.filter_cons, if_neg (by simp [pInst, h2])]
          exact Ev.succ (fun k => by rw [hc, if_neg h1, if_neg h2]) (ih (i + 1) acc (by omega) (by omega))
  obtain ⟨K, h⟩ := hloop l.length 0 [] (by omega) (by simp)
  exact ⟨K, fun k hk => by unfold dossierref16_Inst.f; exact h k hk⟩
theorem bet_ev (l : List S39) (a b : Int) (hl : l.length ≤ 1000) : Ev (fun k => dossierref16_Between.f k l a b) (l.filter (pBet a b)) := by
  have hloop : ∀ (n i : Nat) (acc : List S39), i + n = l.length → acc.length ≤ i → Ev (fun k => dossierref16_Between.l0 k l a b acc (i : Int)) (acc ++ (l.drop i).filter (pBet a b)) := by
    intro n
    induction n with
    | zero =>
      intro i acc e _
      rw [List.drop_of_length_le (by omega)]
      refine Ev.succ (G := fun _ => some (acc ++ [].filter (pBet a b))) (fun k => by rw [dossierref16_Between.l0, if_neg (by omega)]; simp) (Ev.now _)
    | succ n ih =>
      intro i acc e ha
      rw [drop_bx (by omega)]
      have hc : ∀ k, dossierref16_Between.l0 (k + 1) l a b acc (i : Int) = if (bx l i).f0 ≥ a then (if (bx l i).f0 ≤ b then dossierref16_Between.l0 k l a b (acc ++ [bx l i]) ((i + 1 : Nat) : Int) else dossierref16_Between.l0 k l a b acc ((i + 1 : Nat) : Int)) else dossierref16_Between.l0 k l a b acc ((i + 1 : Nat) : Int) := fun k => by
        rw [dossierref16_Between.l0, if_pos (by omega), if_pos (by omega), if_pos (show acc.length < 3518437208883 by omega)]
        simp only [rd_bx, up (show i ≤ 1000000 by omega)]
      by_cases h1 : (bx l i).f0 ≥ a
      · by_cases h2 : (bx l i).f0 ≤ b
        · rw [List.filter_cons, if_pos (by simp [pBet, h2]; omega)]
          have := ih (i + 1) (acc ++ [bx l i]) (by omega) (by simp; omega)
          rw [List.append_assoc] at this
          exact Ev.succ (fun k => by rw [hc, if_pos h1, if_pos h2]) this
        · rw [List.filter_cons, if_neg (by simp [pBet]; omega)]
          exact Ev.succ (fun k => by rw [hc, if_pos h1, if_neg h2]) (ih (i + 1) acc (by omega) (by omega))
      · rw [List.filter_cons, if_neg (by simp [pBet]; omega)]
        exact Ev.succ (fun k => by rw [hc, if_neg h1]) (ih (i + 1) acc (by omega) (by omega))
  obtain ⟨K, h⟩ := hloop l.length 0 [] (by omega) (by simp)
  exact ⟨K, fun k hk => by unfold dossierref16_Between.f; exact h k hk⟩
/-! the program's answers are the document's -/
theorem subLit_inj {b b' : Bool} {n n' : Int} (h : (Lit.int .i64 n).wf = true) (h' : (Lit.int .i64 n').wf = true) (e : subLit b n = subLit b' n') : b = b' ∧ n = n' := by
  have h1 := keyOf_sub b n h
  have h2 := keyOf_sub b' n' h'
  rw [← e] at h2
  have := law63.inj h1 h2
  simp at this
  exact this
theorem grp_of {l : List S39} (hwf : Wf l) (f : Bool) (r : Int) (hr : (Lit.int .i64 r).wf = true) : grp key36 l (subLit f r) = l.filter (pOf f r) := by
  unfold grp
  refine List.filter_congr fun x hx => ?_
  have hw := (hwf x hx).1
  rw [Bool.eq_iff_iff]
  constructor
  · intro h
    obtain ⟨h1, h2⟩ := subLit_inj hw hr (WideAt.sameKey_eq h)
    simp [pOf, h1, h2]
  · intro h
    simp [pOf] at h
    show (subLit x.f1 x.f2).sameKey (subLit f r) = true
    rw [h.1, h.2]
    exact WideAt.sameKey_self trivial
theorem grp_inst (l : List S39) (n : Int) : grp key23 (plan l) (.int .i64 n) = l.filter (pInst n) := by
  unfold grp plan
  rw [List.filter_filter]
  refine List.filter_congr fun x _ => ?_
  rw [Bool.eq_iff_iff]
  simp [pInst, key23, Lit.sameKey, and_comm]
theorem keep_bet (l : List S39) (a b : Int) : keep41 a b l = l.filter (pBet a b) := by
  unfold keep41
  refine List.filter_congr fun x _ => ?_
  rw [Bool.eq_iff_iff]
  simp [pBet]
/-! the contracts -/
theorem same_calls (A : Option Addr) (c : Nat) (A' : Option Addr) (c' : Nat) (l : List S39) (w : World) (h : Rd w A l) (hc : l.length ≤ c) (h' : Rd w A' l) (hc' : l.length ≤ c') (hl : l.length ≤ 1000) :
    Calls Try.prog 10 #[.slice A l.length c, .slice A' l.length c'] w fun e w' => e = .returned (.bool true) ∧ Below w.heap.size w w' := by
  obtain ⟨k, hk⟩ := (same_ev l hl).get
  refine (dossierref16_Same.calls k A c l A' c' l true w (h.C (by omega)) hc (h'.C (by omega)) hc' hk).mono ?_
  rintro e w' ⟨rfl, hd⟩
  exact ⟨rfl, hd.below⟩
/-- A row that the answer has made. -/
def Got (w : World) (v : Value) (l : List S39) : Prop := ∃ A c, v = .slice A l.length c ∧ l.length ≤ c ∧ Rd w A l
theorem Got.of_R {w : World} {b : Nat} {ok : Nat → Prop} {v : Value} {l : List S39} (h : Kd.R k39 39 w b ok v l) : Got w v l := by
  obtain ⟨A, c, rfl⟩ := Kd.R_slice h
  have hr := Kd.R_reads' h
  exact ⟨A, c, rfl, hr.2.1, Rd.of_C hr.2.2⟩
theorem of_calls (A : Option Addr) (c : Nat) (l : List S39) (f : Bool) (r : Int) (w : World) (h : Rd w A l) (hc : l.length ≤ c) (hl : l.length ≤ 1000) :
    Calls Try.prog 13 #[.slice A l.length c, .bool f, .int .i64 r] w fun e w' => ∃ v, e = .returned v ∧ Got w' v (l.filter (pOf f r)) ∧ Below w.heap.size w w' := by
  obtain ⟨k, hk⟩ := (of_ev l f r hl).get
  refine (dossierref16_Of.calls k A c l f r _ w (h.C (by omega)) hc hk).mono ?_
  rintro e w' ⟨v, rfl, hR, hb⟩
  exact ⟨v, rfl, Got.of_R hR, hb⟩
theorem inst_calls (A : Option Addr) (c : Nat) (l : List S39) (n : Int) (w : World) (h : Rd w A l) (hc : l.length ≤ c) (hl : l.length ≤ 1000) :
    Calls Try.prog 15 #[.slice A l.length c, .int .i64 n] w fun e w' => ∃ v, e = .returned v ∧ Got w' v (l.filter (pInst n)) ∧ Below w.heap.size w w' := by
  obtain ⟨k, hk⟩ := (inst_ev l n hl).get
  refine (dossierref16_Inst.calls k A c l n _ w (h.C (by omega)) hc hk).mono ?_
  rintro e w' ⟨v, rfl, hR, hb⟩
  exact ⟨v, rfl, Got.of_R hR, hb⟩
theorem between_calls (A : Option Addr) (c : Nat) (l : List S39) (a b : Int) (w : World) (h : Rd w A l) (hc : l.length ≤ c) (hl : l.length ≤ 1000) :
    Calls Try.prog 17 #[.slice A l.length c, .int .i64 a, .int .i64 b] w fun e w' => ∃ v, e = .returned v ∧ Got w' v (l.filter (pBet a b)) ∧ Below w.heap.size w w' := by
  obtain ⟨k, hk⟩ := (bet_ev l a b hl).get
  refine (dossierref16_Between.calls k A c l a b _ w (h.C (by omega)) hc hk).mono ?_
  rintro e w' ⟨v, rfl, hR, hb⟩
  exact ⟨v, rfl, Got.of_R hR, hb⟩
end Go.Proofs.Ytaddhackggbdkaa
