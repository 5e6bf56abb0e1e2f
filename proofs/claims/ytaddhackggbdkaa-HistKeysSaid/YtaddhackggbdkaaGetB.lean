/- Index[string]: NewIndex, Get, Len, walked; what HistKeys holds in memory; conditions: the index lies in the world. -/
import Derived.Test.YtaddhackggbdkaaPlain
import Derived.Test.YtaddhackggbdkaaAdd20
import Derived.Test.YtaddhackggbdkaaAdd24
namespace Go.Proofs.Ytaddhackggbdkaa
open Go.RowKit Go.Maps Go.Proofs.YtaddhackggbdkaaW.PrintWords Go.Proofs.YtaddhackggbdkaaW.PrintLast Go.Proofs.YtaddhackggbdkaaW.PrintMore PHistTells
theorem new21 (g : Nat) (lb : Array Value) (key : S39 → Lit) (w : World) : Calls Try.prog 21 #[.func (.func g) #[] lb] w fun e w' => e = .returned (.pointer (some ⟨w.heap.size + 1, 0, none⟩)) ∧ IxAt w' 9 76 (.func (.func g) #[] lb) (fun i => w.heap.size ≤ i ∧ i < w'.heap.size) w.heap.size (w.heap.size + 1) key [] w.heap.size (fun _ => nilS) ∧ Below w.heap.size w w' ∧ w'.heap.size = w.heap.size + 2 := by
  have hmm := @run_makeMap Try.prog
  go_enter Try.func21, Try.ntmps21
  go_wp2_with fail
  go_ret
  exact ⟨rfl, IxAt.made w 9 76 _ key (by decide) _ rfl⟩
set_option maxRecDepth 100000 in
set_option maxHeartbeats 1000000 in
theorem get26 (ib mb B : Nat) (fv : Value) (F : Nat → Prop) (key : S39 → Lit) (l : List S39) (V : Lit → Value) (n : ByteArray) (w : World) (h : IxAt w 9 76 fv F B ib key l mb V) (hw : n.size ≤ maxLen) (hl : l.length ≤ 1000) :
    Calls Try.prog 26 #[.pointer (some ⟨ib, 0, none⟩), .string n] w fun e w' => ∃ v, e = .returned v ∧ Own w' w.heap.size v (grp key l (.string n.data.toList)) ∧ Below w.heap.size w w' := by
  obtain ⟨A, c, hV, hz, hlk⟩ := h.look law9 Try.underlying74 (Go.WideMaps.keyOf_string_mk Try.underlying9 hw)
  have hgl := Nat.le_trans (grp_len key l (.string n.data.toList)) hl
  generalize grp key l (.string n.data.toList) = p at *
  have c1 := cell_of h.hd 1
  have hl2 := (hlk w (Below.refl _ _)).2
  have HR := Lib.hid (hlk w (Below.refl _ _)).1
  clear hlk hV h hw
  go_enter Try.func26, Try.ntmps26
  go_wp2_with fail
  refine (clone_calls A c p _ HR.out hz hgl).mono ?_
  rintro e w2 ⟨v, rfl, ho, hb2⟩
  have H2 := Lib.hid (And.intro ho hb2)
  clear ho hb2 hl2 c1
  go_wp2_with fail
  go_ret
  exact ⟨_, rfl, H2.out⟩
theorem len28 (ib mb B : Nat) (fv : Value) (F : Nat → Prop) (key : S39 → Lit) (l : List S39) (V : Lit → Value) (w : World) (h : IxAt w 9 76 fv F B ib key l mb V) :
    Calls Try.prog 28 #[.pointer (some ⟨ib, 0, none⟩)] w fun e w' => e = .returned (.int .i64 (l.length : Int)) ∧ w' = w := by
  have c2 := cell_of h.hd 2
  clear h
  go_enter Try.func28, Try.ntmps28
  go_wp2_with fail
  go_ret
  exact ⟨rfl, rfl⟩
/-- The events of a number's group, of a letter's. -/
def p20 (n k : Int) (e : S39) : Bool := decide ((e.f2 % 16).tmod n = k)
def p24 (k : Int) (e : S39) : Bool := decide (e.f4 % 4 = k)
theorem grp_20 (n k : Int) (l : List S39) : grp (key20 n) l (.int .i64 k) = l.filter (p20 n k) := by
  unfold grp
  refine List.filter_congr fun x _ => ?_
  rw [Bool.eq_iff_iff]
  simp [p20, key20, Lit.sameKey]
theorem ltr_inj {a b : Int} (ha : 0 ≤ a) (ha' : a < 4) (hb : 0 ≤ b) (hb' : b < 4) (h : (ltr a).data.toList = (ltr b).data.toList) : a = b := by
  obtain rfl | rfl | rfl | rfl : a = 0 ∨ a = 1 ∨ a = 2 ∨ a = 3 := by omega
  all_goals (obtain rfl | rfl | rfl | rfl : b = 0 ∨ b = 1 ∨ b = 2 ∨ b = 3 := by omega) <;> first | rfl | (exfalso; revert h; decide)
theorem grp_24 (k : Int) (h0 : 0 ≤ k) (h1 : k < 4) (l : List S39) : grp key24 l (.string (ltr k).data.toList) = l.filter (p24 k) := by
  unfold grp
  refine List.filter_congr fun x _ => ?_
  rw [Bool.eq_iff_iff]
  constructor
  · intro h
    have := WideAt.sameKey_eq h
    unfold key24 at this
    injection this with this
    simp [p24, ltr_inj (by omega) (by omega) h0 h1 this]
  · intro h
    simp [p24] at h
    show (Lit.string (ltr (x.f4 % 4)).data.toList).sameKey (.string (ltr k).data.toList) = true
    rw [h]
    exact WideAt.sameKey_self trivial
theorem grp_z (l : List S39) : grp key24 l (.string [122]) = [] := by
  unfold grp
  rw [List.filter_eq_nil_iff]
  intro x _ h
  have := WideAt.sameKey_eq h
  unfold key24 at this
  injection this with this
  obtain h | h | h | h : x.f4 % 4 = 0 ∨ x.f4 % 4 = 1 ∨ x.f4 % 4 = 2 ∨ x.f4 % 4 = 3 := by omega
  all_goals (rw [h] at this; revert this; decide)
/-- What HistKeys holds: the number at pb, the events at A, the two indices; all but the events lie from the call's beginning on. -/
structure Two (w wr : World) (n : Int) (pb : Nat) (A : Option Addr) (l la lb : List S39) (ib mb jb nb : Nat) (F G : Nat → Prop) (V U : Lit → Value) : Prop where
  bel : Below w.heap.size w wr
  env : wr.cell? ⟨pb, 0, none⟩ = some (.int .i64 n)
  rd : Rd wr A l
  x : IxAt wr 3 73 (.func (.func 20) #[] #[.pointer (some ⟨pb, 0, none⟩)]) F w.heap.size ib (key20 n) la mb V
  y : IxAt wr 9 76 (.func (.func 22) #[] #[]) G w.heap.size jb key24 lb nb U
  fg : ∀ i, F i → ¬ G i
  pg : ¬ G pb
  ag : ∀ ad, A = some ad → l ≠ [] → ¬ G ad.block
theorem Two.below {w wr w' : World} {n : Int} {pb : Nat} {A : Option Addr} {l la lb : List S39} {ib mb jb nb : Nat} {F G : Nat → Prop} {V U : Lit → Value} (h : Two w wr n pb A l la lb ib mb jb nb F G V U) (hb : Below wr.heap.size wr w') : Two w w' n pb A l la lb ib mb jb nb F G V U :=
  ⟨h.bel.trans (hb.mono h.bel.size), cell_below hb (lt_of_cell h.env) h.env, h.rd.below hb, h.x.below hb, h.y.below hb, h.fg, h.pg, h.ag⟩
/-- Add has put events into the second index. -/
theorem Two.add {w wr w' : World} {n : Int} {pb : Nat} {A : Option Addr} {l la lb lb' : List S39} {ib mb jb nb : Nat} {F G : Nat → Prop} {V U U' : Lit → Value} (h : Two w wr n pb A l la lb ib mb jb nb F G V U) (ht : Turn wr w' G) (hy : IxAt w' 9 76 (.func (.func 22) #[] #[]) (fun i => G i ∨ (wr.heap.size ≤ i ∧ i < w'.heap.size)) w.heap.size jb key24 lb' nb U') :
    Two w w' n pb A l la lb' ib mb jb nb F (fun i => G i ∨ (wr.heap.size ≤ i ∧ i < w'.heap.size)) V U' := by
  refine ⟨h.bel.trans (ht.below (fun i hi => (h.y.low i hi).1) h.bel.size), cell_turn ht h.pg h.env, h.rd.mono ht.size (fun ad e hne => ht.block _ ?_ (h.ag ad e hne)), h.x.same ht.size (fun i hi => ht.block i (h.x.low i hi).2 (h.fg i hi)), hy, fun i hi hg => ?_, fun hg => ?_, fun ad e hne hg => ?_⟩
  · rcases h.rd with h0 | ⟨ad', e', hlt, _⟩
    · exact absurd h0 hne
    · rw [e] at e'
      injection e' with e'
      subst e'
      exact hlt
  · rcases hg with hg | hg
    · exact h.fg i hi hg
    · have := (h.x.low i hi).2
      omega
  · rcases hg with hg | hg
    · exact h.pg hg
    · have := lt_of_cell h.env
      simp at this
      omega
  · rcases hg with hg | hg
    · exact h.ag ad e hne hg
    · rcases h.rd with h0 | ⟨ad', e', hlt, _⟩
      · exact hne h0
      · rw [e] at e'
        injection e' with e'
        subst e'
        omega
end Go.Proofs.Ytaddhackggbdkaa
