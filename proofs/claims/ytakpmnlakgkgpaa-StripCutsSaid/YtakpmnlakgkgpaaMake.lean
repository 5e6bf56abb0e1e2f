/- make([]byte, n): n noughts in new memory; condition: n is at most 1000. -/
import Derived.Test.YtakpmnlakgkgpaaKnown
import Derived.Laws.MakeOwn
namespace Go.Proofs.Ytakpmnlakgkgpaa
open Go.RowKit
/-- n noughts. -/
def zer (n : Nat) : List UInt8 := List.replicate n 0
theorem zer_length (n : Nat) : (zer n).length = n := by simp [zer]
theorem zer_append (n m : Nat) : zer n ++ zer m = zer (n + m) := by simp [zer]
theorem zer_take (n m : Nat) (h : m ≤ n) : (zer n).take m = zer m := by simp [zer, Nat.min_eq_left h]
def zcells (n : Nat) : Array Value := (bys (zer n)).toArray
theorem mk_bytes (n : Nat) (h : n ≤ 1000) (w : World) : (Instr.makeSlice 26 (.int .i64 (n : Int)) (.int .i64 (n : Int))).run Try.prog w = .ok (.slice (some ⟨w.heap.size, 0, none⟩) n n) (w.alloc (.cells (zcells n) 5)) := by
  obtain ⟨i0, hi, hz0, hz1, hz2⟩ := info_parts info5
  have hr := run_make (P := Try.prog) w 26 5 i0 (.int .u8 0) Try.underlying26 hi hz0 .i64 .i64 n n (by omega) (by omega) (by rw [hz2]; omega) (by omega)
  simp only [Int.toNat_natCast] at hr
  rw [hr]
  have hc : madeCells (Value.int .u8 0).cells (n * i0.size) = zcells n := by
    rw [hz1, Nat.mul_one]
    apply Array.ext
    · simp [madeCells, zcells, bys_length, zer_length]
    · intro i h1 h2
      simp [madeCells, zcells, bys, zer, Value.cells, Nat.mod_one]
  rw [hc]
theorem zcells_get (n : Nat) : ∀ (j : Nat) (u : Value), (bys (zer n))[j]? = some u → (zcells n)[j]? = some u := by
  intro j u h
  simpa [zcells] using h
/-- A strip of noughts, alive, without a fuse. -/
def nul (room n safe : Nat) : St := ⟨room, zer n, safe, false, -1⟩
theorem nul_new (r : Nat) (h : r ≤ 65536) : St.new (r : Int) = nul r 0 0 := by simp [St.new, nul, zer, Nat.min_eq_left h]
theorem nul_write (r n s m : Nat) (h : n + m ≤ r) : (nul r n s).write (zer m) = (nul r (n + m) s, 0) := by
  simp [St.write, St.live, St.tick, nul, zer_length, zer_append, show ¬ r < n + m by omega]
theorem nul_full (r n s m : Nat) (h : r < n + m) : (nul r n s).write (zer m) = (nul r n s, 8) := by
  simp [St.write, St.live, St.tick, nul, zer_length, h]
theorem nul_sync (r n s : Nat) : (nul r n s).sync = (nul r n n, 0) := by
  simp [St.sync, St.live, St.tick, nul, zer_length]
theorem nul_cut (r n s m : Nat) (h : m ≤ n) : (nul r n s).cut (m : Int) = (nul r m (min s m), 0) := by
  simp [St.cut, St.live, St.tick, nul, zer_length, zer_take _ _ h, show ¬ n < m by omega]
theorem nul_cut_bad (r n s : Nat) (m : Int) (h : m < 0 ∨ (n : Int) < m) : (nul r n s).cut m = (nul r n s, 1) := by
  simp [St.cut, St.live, St.tick, nul, zer_length, h]
theorem nul_len (r n s : Nat) : (nul r n s).L.length = n := by simp [nul, zer_length]
/-- Write of m noughts that were just made. -/
theorem has_write_zer {w0 w : World} {q r n s : Nat} (h : Has w0 w q (nul r n s)) (m : Nat) (hm : m ≤ 1000) :
    Calls Try.prog 10 #[.pointer (some ⟨q, 0, none⟩), .slice (some ⟨w.heap.size, 0, none⟩) m m] (w.alloc (.cells (zcells m) 5)) fun e w' => e = .returned (.int .i64 ((nul r n s).write (zer m)).2) ∧ Has w0 w' q ((nul r n s).write (zer m)).1 := by
  have := has_write_new h (zcells m) (0, 0) m (zer m) (zcells_get m) (by rw [zer_length]; omega)
  rwa [zer_length] at this
end Go.Proofs.Ytakpmnlakgkgpaa
