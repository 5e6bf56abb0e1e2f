/- The keys of HistKeys' two indices, walked; condition: the captured number lies in the world, and is no 0. -/
import Derived.Test.YtaddhackggbdkaaNew
namespace Go.Proofs.Ytaddhackggbdkaa
open Go.RowKit Go.Proofs.YtaddhackggbdkaaW.PrintWords Go.Proofs.YtaddhackggbdkaaW.PrintLast Go.Proofs.YtaddhackggbdkaaW.PrintMore PHistTells
theorem i64_mask (n m : Int) (k : Nat) (hm : (BitVec.ofInt 64 m).toNat = 2 ^ k - 1) (hk : k ≤ 8) : bits .and .i64 n m = n % (2 ^ k : Nat) := by
  have key : (BitVec.ofInt 64 n &&& BitVec.ofInt 64 m).toNat = (n % ((2 ^ 64 : Nat) : Int)).toNat % 2 ^ k := by
    rw [BitVec.toNat_and, BitVec.toNat_ofInt, hm, Nat.and_two_pow_sub_one_eq_mod]
  show IntKind.i64.wrap ((BitVec.ofInt 64 n &&& BitVec.ofInt 64 m).toNat : Nat) = _
  rw [key, IntKind.wrap_i64]
  obtain rfl | rfl | rfl | rfl | rfl | rfl | rfl | rfl | rfl : k = 0 ∨ k = 1 ∨ k = 2 ∨ k = 3 ∨ k = 4 ∨ k = 5 ∨ k = 6 ∨ k = 7 ∨ k = 8 := by omega
  all_goals omega
theorem and15 (n : Int) : bits .and .i64 n 15 = n % 16 := i64_mask n 15 4 (by decide) (by decide)
theorem and3 (n : Int) : bits .and .i64 n 3 = n % 4 := i64_mask n 3 2 (by decide) (by decide)
/-- The letters by number. -/
def ltr (m : Int) : ByteArray := if m = 0 then ⟨#[97]⟩ else if m = 1 then ⟨#[98]⟩ else if m = 2 then ⟨#[99]⟩ else ⟨#[100]⟩
theorem ltr_size (m : Int) : (ltr m).size ≤ maxLen := by
  unfold ltr
  split
  · decide
  · split
    · decide
    · split <;> decide
def key20 (n : Int) (x : S39) : Lit := .int .i64 ((x.f2 % 16).tmod n)
def key24 (x : S39) : Lit := .string (ltr (x.f4 % 4)).data.toList
theorem key20_wf (n : Int) (h1 : 1 ≤ n) (x : S39) : (Lit.int .i64 ((x.f2 % 16).tmod n)).wf = true := by
  have h0 : 0 ≤ x.f2 % 16 := by omega
  have h2 : x.f2 % 16 < 16 := by omega
  have h3 := Int.tmod_nonneg n h0
  have h4 : (x.f2 % 16).tmod n ≤ x.f2 % 16 := by
    rw [Int.tmod_eq_emod_of_nonneg h0]
    have h5 : 0 ≤ n * (x.f2 % 16 / n) := Int.mul_nonneg (by omega) (Int.ediv_nonneg h0 (by omega))
    have h6 := Int.mul_ediv_add_emod (x.f2 % 16) n
    omega
  have e1 : IntKind.i64.min = -9223372036854775808 := rfl
  have e2 : IntKind.i64.max = 9223372036854775807 := rfl
  simp [Lit.wf, e1, e2]
  omega
theorem key20w (x : S39) (p : Nat) (n : Int) (w : World) (hn : n ≠ 0) (hp : w.cell? ⟨p, 0, none⟩ = some (.int .i64 n)) :
    Calls Try.prog 20 #[agg x, .pointer (some ⟨p, 0, none⟩)] w fun e w' => e = .returned (.int .i64 ((x.f2 % 16).tmod n)) ∧ Below w.heap.size w w' := by
  have h1 : (w.alloc (.cells #[.int .i64 x.f0, .bool x.f1, .int .i64 x.f2, .int .i64 x.f3, .int .i64 x.f4] 39)).cell? ⟨p, 0, none⟩ = some (.int .i64 n) := cell_below (B := w.heap.size) ((Below.refl _ _).alloc (Nat.le_refl _) _) (lt_of_cell hp) hp
  unfold agg
  go_enter Try.func20, Try.ntmps20
  go_wp2_with fail
  go_ret
  exact ⟨by rw [and15]; rfl, by repeat (first | exact Below.refl _ _ | (refine Below.alloc ?_ (by simp) _))⟩
theorem key22w (x : S39) (w : World) :
    Calls Try.prog 22 #[agg x] w fun e w' => e = .returned (.string (ltr (x.f4 % 4))) ∧ Below w.heap.size w w' := by
  unfold agg
  obtain h | h | h | h : x.f4 % 4 = 0 ∨ x.f4 % 4 = 1 ∨ x.f4 % 4 = 2 ∨ x.f4 % 4 = 3 := by omega
  all_goals
    rw [h]
    have h0 := (and3 x.f4).trans h
    clear h
    go_enter Try.func22, Try.ntmps22
    go_wp2_with fail
    go_ret
    exact ⟨rfl, by repeat (first | exact Below.refl _ _ | (refine Below.alloc ?_ (by simp) _))⟩
end Go.Proofs.Ytaddhackggbdkaa
