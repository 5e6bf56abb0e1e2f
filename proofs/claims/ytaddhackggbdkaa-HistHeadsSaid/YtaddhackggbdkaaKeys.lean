/- The keys of hist's own indices, and the tests of its closures, walked; no condition. -/
import Derived.Test.YtaddhackggbdkaaIdx
namespace Go.Proofs.Ytaddhackggbdkaa
open Go.RowKit Go.Proofs.YtaddhackggbdkaaW.PrintWords Go.Proofs.YtaddhackggbdkaaW.PrintLast Go.Proofs.YtaddhackggbdkaaW.PrintMore PHistTells
def agg (x : S39) : Value := .agg #[.int .i64 x.f0, .bool x.f1, .int .i64 x.f2, .int .i64 x.f3, .int .i64 x.f4]
theorem key34 (x : S39) (w : World) : Calls Try.prog 34 #[agg x] w fun e w' => e = .returned (.agg #[.bool x.f1, .int .i64 x.f2]) ∧ Below w.heap.size w w' := by
  unfold agg
  go_enter Try.func34, Try.ntmps34
  go_wp2_with fail
  refine bodyPost_ret (results_cell_row rfl _ _ (w.heap.size + 1) 63 #[.bool x.f1, .int .i64 x.f2] (0, 0) _ rfl ?_ Try.underlying63 rfl (by kernel_rfl)) rfl ?_
  · have h := heap_alloc_new (w.alloc (.cells #[.int .i64 x.f0, .bool x.f1, .int .i64 x.f2, .int .i64 x.f3, .int .i64 x.f4] 39)) (.cells #[.bool x.f1, .int .i64 x.f2] 63)
    rw [show (w.alloc (.cells #[.int .i64 x.f0, .bool x.f1, .int .i64 x.f2, .int .i64 x.f3, .int .i64 x.f4] 39)).heap.size = w.heap.size + 1 by simp] at h
    exact h
  · exact ⟨rfl, ((Below.refl _ _).alloc (Nat.le_refl _) _).alloc (by simp) _⟩
theorem key35 (x : S39) (w : World) : Calls Try.prog 35 #[agg x] w fun e w' => e = .returned (.int .i64 x.f3) ∧ Below w.heap.size w w' := by
  unfold agg
  go_enter Try.func35, Try.ntmps35
  go_wp2_with fail
  go_ret
  exact ⟨rfl, by repeat (first | exact Below.refl _ _ | (refine Below.alloc ?_ (by simp) _))⟩
theorem key39 (x : S39) (w : World) : Calls Try.prog 39 #[agg x] w fun e w' => e = .returned (.bool x.f1) ∧ Below w.heap.size w w' := by
  unfold agg
  go_enter Try.func39, Try.ntmps39
  go_wp2_with fail
  go_ret
  exact ⟨rfl, by repeat (first | exact Below.refl _ _ | (refine Below.alloc ?_ (by simp) _))⟩
theorem key41 (x : S39) (frm til : Int) (p q : Nat) (w : World) (hp : w.cell? ⟨p, 0, none⟩ = some (.int .i64 frm)) (hq : w.cell? ⟨q, 0, none⟩ = some (.int .i64 til)) :
    Calls Try.prog 41 #[agg x, .pointer (some ⟨p, 0, none⟩), .pointer (some ⟨q, 0, none⟩)] w fun e w' => e = .returned (.bool (decide (x.f0 < frm) || decide (til < x.f0))) ∧ Below w.heap.size w w' := by
  have h1 : (w.alloc (.cells #[.int .i64 x.f0, .bool x.f1, .int .i64 x.f2, .int .i64 x.f3, .int .i64 x.f4] 39)).cell? ⟨p, 0, none⟩ = some (.int .i64 frm) := cell_below (B := w.heap.size) ((Below.refl _ _).alloc (Nat.le_refl _) _) (lt_of_cell hp) hp
  have h2 : (w.alloc (.cells #[.int .i64 x.f0, .bool x.f1, .int .i64 x.f2, .int .i64 x.f3, .int .i64 x.f4] 39)).cell? ⟨q, 0, none⟩ = some (.int .i64 til) := cell_below (B := w.heap.size) ((Below.refl _ _).alloc (Nat.le_refl _) _) (lt_of_cell hq) hq
  unfold agg
  by_cases hc : x.f0 < frm
  · go_enter Try.func41, Try.ntmps41
    go_wp2_with fail
    go_ret
    exact ⟨by simp [hc], by repeat (first | exact Below.refl _ _ | (refine Below.alloc ?_ (by simp) _))⟩
  · go_enter Try.func41, Try.ntmps41
    go_wp2_with fail
    go_ret
    exact ⟨by rw [show decide (x.f0 < frm) = false from decide_eq_false (by omega)]; rfl, by repeat (first | exact Below.refl _ _ | (refine Below.alloc ?_ (by simp) _))⟩
end Go.Proofs.Ytaddhackggbdkaa
