/- The contracts of the program's strip, over one relation 'Has': the strip S lies in block q, all of it made since w0, and what there was at w0 is as it was. -/
import Derived.Test.YtakpmnlakgkgpaaStripC
namespace Go.Proofs.Ytakpmnlakgkgpaa
open Go.RowKit

def Has (w0 w : World) (q : Nat) (S : St) : Prop := S.Fit ∧ w0.heap.size ≤ q ∧ Below w0.heap.size w0 w ∧ ∃ v, SAt w w0.heap.size q v S
theorem Has.step {w0 w w' : World} {q : Nat} {S T : St} {v v' : Value} (hq : w0.heap.size ≤ q) (hb : Below w0.heap.size w0 w) (h : SAt w w0.heap.size q v S) (hT : T.Fit) (h' : SAt w' w0.heap.size q v' T) (k : Step w w' q v v') : Has w0 w' q T :=
  ⟨hT, hq, k.below hb hq h.2 hb.size, v', h'⟩
/-- The strip stands where all that there was stands. -/
theorem Has.below {w0 w w' : World} {q : Nat} {S : St} (h : Has w0 w q S) (hb : Below w.heap.size w w') : Has w0 w' q S := by
  obtain ⟨hf, hq, hb0, v, h1, h2⟩ := h
  have hlt : q < w.heap.size := (Array.getElem?_eq_some_iff.1 h1).1
  exact ⟨hf, hq, hb0.trans (hb.mono hb0.size), v, by rw [hb.block q hlt]; exact h1, own_stay h2 fun g hg => hb.block g (h2.lt g hg).2⟩
theorem Has.alloc {w0 w : World} {q : Nat} {S : St} (h : Has w0 w q S) (o : Obj) : Has w0 (w.alloc o) q S := h.below ((Below.refl _ _).alloc (Nat.le_refl _) _)
theorem Has.drewN {w0 w : World} {q : Nat} {S : St} (h : Has w0 w q S) (n : Nat) : Has w0 (w.drewN n) q S := h.below (below_drewN (Below.refl _ _) n)
theorem Has.bel {w0 w : World} {q : Nat} {S : St} (h : Has w0 w q S) : Below w0.heap.size w0 w := h.2.2.1
theorem Has.fit {w0 w : World} {q : Nat} {S : St} (h : Has w0 w q S) : S.Fit := h.1

theorem has_new (w0 : World) (room : Int) (w : World) (hb : Below w0.heap.size w0 w) : Calls Try.prog 9 #[.int .i64 room] w fun e w' => ∃ q, e = .returned (.pointer (some ⟨q, 0, none⟩)) ∧ Has w0 w' q (St.new room) ∧ Below w.heap.size w w' := by
  refine (new_calls room w).mono ?_
  rintro e w1 ⟨rfl, h1, hb1⟩
  exact ⟨w.heap.size, rfl, ⟨new_fit _, hb.size, hb.trans (hb1.mono hb.size), _, h1.1, own_base h1.2 hb.size⟩, hb1⟩
theorem has_sync {w0 w : World} {q : Nat} {S : St} (h : Has w0 w q S) : Calls Try.prog 13 #[.pointer (some ⟨q, 0, none⟩)] w fun e w' => e = .returned (.int .i64 S.sync.2) ∧ Has w0 w' q S.sync.1 := by
  obtain ⟨hf, hq, hb0, v, hS⟩ := h
  refine (sync_calls _ q v S w hS hf).mono ?_
  rintro e w1 ⟨rfl, h1, k1⟩
  exact ⟨rfl, Has.step hq hb0 hS (sync_fit hf) h1 k1⟩
theorem has_cut {w0 w : World} {q : Nat} {S : St} (h : Has w0 w q S) (n : Int) : Calls Try.prog 14 #[.pointer (some ⟨q, 0, none⟩), .int .i64 n] w fun e w' => e = .returned (.int .i64 (S.cut n).2) ∧ Has w0 w' q (S.cut n).1 := by
  obtain ⟨hf, hq, hb0, v, hS⟩ := h
  refine (cut_calls _ q v S n w hS hf).mono ?_
  rintro e w1 ⟨rfl, v', h1, k1⟩
  exact ⟨rfl, Has.step hq hb0 hS (cut_fit hf n) h1 k1⟩
theorem has_fuse {w0 w : World} {q : Nat} {S : St} (h : Has w0 w q S) (n : Int) (hn : n ≤ 9223372036854775807) : Calls Try.prog 21 #[.pointer (some ⟨q, 0, none⟩), .int .i64 n] w fun e w' => e = .returned (.tuple #[]) ∧ Has w0 w' q (S.setFuse n) := by
  obtain ⟨hf, hq, hb0, v, hS⟩ := h
  refine (fuse_calls _ q v S n w hS).mono ?_
  rintro e w1 ⟨rfl, h1, k1⟩
  exact ⟨rfl, Has.step hq hb0 hS (fuse_fit hf n hn) h1 k1⟩
theorem has_safe {w0 w : World} {q : Nat} {S : St} (h : Has w0 w q S) : Calls Try.prog 15 #[.pointer (some ⟨q, 0, none⟩)] w fun e w' => e = .returned (.int .i64 (S.safe : Int)) ∧ w = w' := by
  obtain ⟨hf, hq, hb0, v, hS⟩ := h
  exact safe_calls _ q v S w hS
theorem has_read {w0 w : World} {q : Nat} {S : St} (h : Has w0 w q S) : Calls Try.prog 11 #[.pointer (some ⟨q, 0, none⟩)] w fun e w' => ∃ a c, e = .returned (.slice a S.L.length c) ∧ w'.ownsRow w.heap.size 5 1 (.slice a S.L.length c) S.L.length (bys S.L) ∧ Has w0 w' q S ∧ Below w.heap.size w w' := by
  have hH := h
  obtain ⟨hf, hq, hb0, v, hS⟩ := h
  refine (read_calls _ q v S w hS hf).mono ?_
  rintro e w1 ⟨a, c, rfl, ho, hb⟩
  exact ⟨a, c, rfl, ho, hH.below hb, hb⟩
theorem has_crash {w0 w : World} {q : Nat} {S : St} (h : Has w0 w q S) (keep : Int) : Calls Try.prog 23 #[.pointer (some ⟨q, 0, none⟩), .int .i64 keep] w fun e w' => ∃ q2, e = .returned (.pointer (some ⟨q2, 0, none⟩)) ∧ Has w0 w' q2 (S.crash keep) ∧ Has w0 w' q S ∧ Below w.heap.size w w' := by
  have hH := h
  obtain ⟨hf, hq, hb0, v, hS⟩ := h
  refine (crash_calls _ q v S keep w hS hf).mono ?_
  rintro e w1 ⟨q2, v', rfl, hq2, h1, hb⟩
  exact ⟨q2, rfl, ⟨crash_fit hf keep, Nat.le_trans hb0.size hq2, hb0.trans (hb.mono hb0.size), v', h1.1, own_base h1.2 hb0.size⟩, hH.below hb, hb⟩
/-- Write of bytes that there were at w0. -/
theorem has_write {w0 w : World} {q : Nat} {S : St} (h : Has w0 w q S) (a : Option Addr) (c : Nat) (p : List UInt8) (hp : Src w a p) (ha : ∀ ad, a = some ad → p ≠ [] → ad.block < w0.heap.size) (hz : a = none → c = 0) (hlen : p.length ≤ 140737488351232) :
    Calls Try.prog 10 #[.pointer (some ⟨q, 0, none⟩), .slice a p.length c] w fun e w' => e = .returned (.int .i64 (S.write p).2) ∧ Has w0 w' q (S.write p).1 := by
  obtain ⟨hf, hq, hb0, v, hS⟩ := h
  refine (write_calls _ q v S a c p w hS hf hp (fun ad e hne => ?_) hz hlen hb0.size).mono ?_
  · have := ha ad e hne
    exact ⟨by omega, fun e' => by have := (hS.2.lt _ e'.symm).1; omega⟩
  · rintro e w1 ⟨rfl, v', h1, k1⟩
    exact ⟨rfl, Has.step hq hb0 hS (write_fit hf p) h1 k1⟩
/-- Write of bytes that were just made. -/
theorem has_write_new {w0 w : World} {q : Nat} {S : St} (h : Has w0 w q S) (cs : Array Value) (fz : Nat × Nat) (c : Nat) (p : List UInt8) (hp : ∀ (j : Nat) (u : Value), (bys p)[j]? = some u → cs[j]? = some u) (hlen : p.length ≤ 140737488351232) :
    Calls Try.prog 10 #[.pointer (some ⟨q, 0, none⟩), .slice (some ⟨w.heap.size, 0, none⟩) p.length c] (w.alloc (.cells cs 5 fz)) fun e w' => e = .returned (.int .i64 (S.write p).2) ∧ Has w0 w' q (S.write p).1 := by
  have hlt : q < w.heap.size := by
    obtain ⟨_, _, _, v, hS⟩ := h
    exact hS.lt
  have hlv : ∀ v, SAt w w0.heap.size q v S → ∀ g, v.ownBlock = some g → g < w.heap.size := fun v hS g hg => (hS.2.lt g hg).2
  obtain ⟨hf, hq, hb0, v, hS⟩ := id h
  have hS' : SAt (w.alloc (.cells cs 5 fz)) w0.heap.size q v S :=
    ⟨by rw [Below.heap_alloc _ _ _ hlt]; exact hS.1, hS.2.alloc _⟩
  refine (write_calls _ q v S (some ⟨w.heap.size, 0, none⟩) c p _ hS' hf (.inr ⟨_, rfl, fun j u hj => ?_⟩) (fun ad e _ => ?_) (fun e => by cases e) hlen (Nat.le_trans hb0.size (by simp))).mono ?_
  · rw [cell_at (heap_alloc_new w (.cells cs 5 fz)) j]
    exact hp j u hj
  · injection e with e
    subst e
    exact ⟨by simp; omega, fun e => by have := hlv v hS _ e.symm; simp at this⟩
  · rintro e w1 ⟨rfl, v', h1, k1⟩
    exact ⟨rfl, Has.step hq (hb0.alloc hb0.size _) hS' (write_fit hf p) h1 k1⟩
end Go.Proofs.Ytakpmnlakgkgpaa
