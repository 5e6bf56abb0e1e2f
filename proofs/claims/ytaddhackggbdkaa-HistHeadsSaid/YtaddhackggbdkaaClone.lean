/- slices.Clone of events, walked; conditions: the events lie in memory. -/
import Derived.Test.YtaddhackggbdkaaAddKit
import Derived.WalkSpells
namespace Go.Proofs.Ytaddhackggbdkaa
open Go.RowKit Go.Maps Go.Proofs.YtaddhackggbdkaaW.PrintWords Go.Proofs.YtaddhackggbdkaaW.PrintLast Go.Proofs.YtaddhackggbdkaaW.PrintMore PHistTells
theorem own_empty (w : World) : Own (w.alloc (.cells #[] 39)) w.heap.size (.slice (some ⟨w.heap.size, 0, none⟩) 0 0) [] :=
  ⟨rfl, .inr ⟨w.heap.size, 0, #[], rfl, Nat.le_refl _, heap_alloc_new w _, Nat.le_refl _, by decide, rfl, rfl⟩⟩
set_option maxRecDepth 100000 in
set_option maxHeartbeats 1000000 in
theorem clone_calls (A : Option Addr) (c : Nat) (p : List S39) (w : World) (hp : Rd w A p) (hz : A = none → c = 0) (hl : p.length ≤ 1000) :
    Calls Try.prog 38 #[.slice A p.length c] w fun e w' => ∃ v, e = .returned v ∧ Own w' w.heap.size v p ∧ Below w.heap.size w w' := by
  have hq := fun (w : World) (a : Option Addr) (n c : Nat) => Lib.run_eql_slice_nil (P := Try.prog) w 22 39 a n c 0 0 Try.underlying22
  cases A with
  | none =>
    obtain rfl := hz rfl
    have hp0 : p = [] := by
      rcases hp with h | ⟨ad, e, _⟩
      · exact h
      · cases e
    subst hp0
    go_enter Try.func38, Try.ntmps38
    go_wp2_with fail
    go_ret
    exact ⟨_, rfl, Own.nil _ _, Below.refl _ _⟩
  | some ad =>
    have HP : Hid (Rd (w.alloc (.cells #[] 39)) (some ad) p) := Lib.hid (hp.below ((Below.refl _ _).alloc (Nat.le_refl _) _))
    clear hp hz
    go_enter Try.func38, Try.ntmps38
    go_wp2_with (at_builtin; refine wpList_append_ev rfl _ _ rfl _ rfl (own_empty w) rfl HP.out (fun e => by cases e) (by simp; omega) (by simp) ?_; intro v' w1 ho hg hloc; have H1 := Lib.hid (And.intro ho (And.intro hg hloc)); clear ho hg hloc)
    go_ret
    exact ⟨_, rfl, by simpa using H1.out.1, Below.grown ((Below.refl _ _).alloc (Nat.le_refl _) _) H1.out.2.1 (by simp) (fun k hk => by
      have hk : some w.heap.size = some k := hk
      injection hk with hk
      omega)⟩
end Go.Proofs.Ytaddhackggbdkaa
