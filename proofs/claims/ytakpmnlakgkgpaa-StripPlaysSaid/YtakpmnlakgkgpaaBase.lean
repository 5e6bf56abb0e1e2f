/- What the strips' walks lean on: rows of bytes that the call owns, what a step does to the world, the states of a strip; no program is walked here. -/
import Derived.Test.YtakpmnlakgkgpaaChecked
import Derived.Test.YtakpmnlakgkgpaaOpen
import Derived.WalkKit
import Derived.WalkSpells
import Derived.WalkSmall
import Derived.Outline
import Derived.Lib.Hide
import Derived.Lib.SliceRun
import Derived.Deep.LoopGhost
import Derived.Deep.QuietTactic
import Derived.BigQuiet
import Derived.KernelRfl
import Derived.Laws.Rows
import Derived.Laws.BytesArg
import Derived.Laws.IdiomStrings
import Derived.Laws.AppendOwnNone
import Derived.Laws.OwnMore
import Derived.Maps.AppendAt
import Derived.Deep.AppendLies
namespace Go.Proofs.Ytakpmnlakgkgpaa
open Go.RowKit

theorem own_info {w : World} {base : Nat} {e : TypeId} {v : Value} {n : Nat} {xs : List Value} (h : w.ownsRow base e 1 v n xs) {g : Nat} (hg : v.ownBlock = some g) : base ≤ g ∧ ∃ cur, w.heap[g]? = some (.cells cur e (0, 0)) := by
  rcases h.2 with ⟨rfl, _⟩ | ⟨g', cp, cur, rfl, hb, hh, _⟩
  · simp [Value.ownBlock] at hg
  · simp only [Value.ownBlock, Option.some.injEq] at hg
    subst hg
    exact ⟨hb, cur, hh⟩
theorem own_stay {w w' : World} {base : Nat} {e : TypeId} {v : Value} {n : Nat} {xs : List Value} (h : w.ownsRow base e 1 v n xs) (hs : ∀ g, v.ownBlock = some g → w'.heap[g]? = w.heap[g]?) : w'.ownsRow base e 1 v n xs := by
  refine ⟨h.1, ?_⟩
  rcases h.2 with hn | ⟨g, cap, cur, rfl, hb, hgg, rest⟩
  · exact .inl hn
  · exact .inr ⟨g, cap, cur, rfl, hb, by rw [hs g rfl]; exact hgg, rest⟩
theorem own_shape {w : World} {base : Nat} {e : TypeId} {size : Nat} {v : Value} {n : Nat} {xs : List Value} (h : w.ownsRow base e size v n xs) : ∃ a cp, v = .slice a n cp := by
  rcases h.2 with ⟨rfl, rfl⟩ | ⟨g, cap, cur, rfl, _⟩
  · exact ⟨none, 0, rfl⟩
  · exact ⟨_, cap, rfl⟩
theorem own_base {w : World} {base base' : Nat} {e : TypeId} {v : Value} {n : Nat} {xs : List Value} (h : w.ownsRow base e 1 v n xs) (hb : base' ≤ base) : w.ownsRow base' e 1 v n xs := by
  refine ⟨h.1, ?_⟩
  rcases h.2 with hn | ⟨g, cap, cur, rfl, hbb, rest⟩
  · exact .inl hn
  · exact .inr ⟨g, cap, cur, rfl, Nat.le_trans hb hbb, rest⟩
theorem tag_ne {w : World} {i j : Nat} {cs cs' : Array Value} {t t' : TypeId} {fz fz' : Nat × Nat} (hi : w.heap[i]? = some (.cells cs t fz)) (hj : w.heap[j]? = some (.cells cs' t' fz')) (h : t ≠ t') : i ≠ j := by
  rintro rfl
  rw [hi] at hj
  simp at hj
  exact h hj.2.1
theorem only_refl (w : World) (r : Option Nat) : w.grownBy w r := ⟨rfl, rfl, rfl, Nat.le_refl _, fun _ _ _ => rfl⟩
theorem only_alloc {a b : World} {r : Option Nat} (h : a.grownBy b r) (o : Obj) : a.grownBy (b.alloc o) r :=
  ⟨h.os, h.tape, h.output, Nat.le_trans h.size (by simp), fun i hi hne => (Below.heap_alloc b o i (Nat.lt_of_lt_of_le hi h.size)).trans (h.block i hi hne)⟩
theorem below_only {B : Nat} {a w w' : World} {r : Option Nat} (h : Below B a w) (k : w.grownBy w' r) (hr : ∀ i, r = some i → B ≤ i) (hB : B ≤ w.heap.size) : Below B a w' :=
  h.trans ⟨k.os, k.tape, k.output, k.size, fun i hi => k.block i (by omega) (fun e => by have := hr i e.symm; omega)⟩

/-- What a call does to the world that has to do with a block q and a row v: all else that was there is as it was. -/
structure Step (w w' : World) (q : Nat) (v v' : Value) : Prop where
  os : w'.os = w.os
  tape : w'.tape = w.tape
  output : w'.output = w.output
  size : w.heap.size ≤ w'.heap.size
  block : ∀ i, i < w.heap.size → i ≠ q → some i ≠ v.ownBlock → w'.heap[i]? = w.heap[i]?
  new : v'.ownBlock = v.ownBlock ∨ ∀ g, v'.ownBlock = some g → w.heap.size ≤ g
theorem Step.refl (w : World) (q : Nat) (v : Value) : Step w w q v v := ⟨rfl, rfl, rfl, Nat.le_refl _, fun _ _ _ _ => rfl, .inl rfl⟩
theorem Step.trans {a b c : World} {q : Nat} {v v1 v2 : Value} (h : Step a b q v v1) (k : Step b c q v1 v2) : Step a c q v v2 := by
  refine ⟨k.os.trans h.os, k.tape.trans h.tape, k.output.trans h.output, Nat.le_trans h.size k.size, fun i hi hq hv => ?_, ?_⟩
  · rw [k.block i (Nat.lt_of_lt_of_le hi h.size) hq (fun e => ?_)]
    · exact h.block i hi hq hv
    · rcases h.new with hn | hn
      · rw [hn] at e
        exact hv e
      · have := hn i e.symm
        omega
  · rcases k.new with hk | hk
    · rcases h.new with hn | hn
      · exact .inl (hk.trans hn)
      · exact .inr fun g hg => hn g (hk ▸ hg)
    · exact .inr fun g hg => Nat.le_trans h.size (hk g hg)
theorem Step.drewN {a b : World} {q : Nat} {v v' : Value} (h : Step a b q v v') (n : Nat) : Step a (b.drewN n) q v v' := ⟨h.os, h.tape, h.output, h.size, h.block, h.new⟩
theorem Step.set {a b : World} {q : Nat} {v v' : Value} (h : Step a b q v v') (i : Nat) (u : Value) : Step a (b.setCell ⟨q, i, none⟩ u) q v v' :=
  ⟨h.os, h.tape, h.output, by rw [set_size]; exact h.size, fun j hj hq hv => (set_other _ _ _ _ hq).trans (h.block j hj hq hv), h.new⟩
theorem Step.below {N q : Nat} {a w w' : World} {v v' : Value} {n : Nat} {xs : List Value} {e : TypeId} (h : Below N a w) (k : Step w w' q v v') (hq : N ≤ q) (hv : w.ownsRow N e 1 v n xs) (hs : N ≤ w.heap.size) : Below N a w' :=
  h.trans ⟨k.os, k.tape, k.output, k.size, fun i hi => k.block i (by omega) (by omega) (fun e => by have := (own_info hv e.symm).1; omega)⟩
theorem Step.cell {w w' : World} {q : Nat} {v v' : Value} {a : Addr} {u : Value} (k : Step w w' q v v') (hc : w.cell? a = some u) (hq : a.block ≠ q) (hv : some a.block ≠ v.ownBlock) : w'.cell? a = some u := by
  rw [World.cell?_of_block (k.block _ (lt_of_cell hc) hq hv)]
  exact hc

/-! ### bytes -/
def bys (l : List UInt8) : List Value := l.map fun b => .int .u8 (b.toNat : Int)
theorem bys_length (l : List UInt8) : (bys l).length = l.length := by simp [bys]
theorem bys_append (l m : List UInt8) : bys (l ++ m) = bys l ++ bys m := by simp [bys]
theorem bys_take (l : List UInt8) (n : Nat) : bys (l.take n) = (bys l).take n := by simp [bys]
theorem bys_one (l : List UInt8) : ∀ u ∈ bys l, u.oneCell' = true := by
  intro u hu
  obtain ⟨x, _, rfl⟩ := List.mem_map.1 hu
  rfl
/-- The slice value pv holds the bytes l, none of them in the block q nor in a row from N on. -/
def Holds (w : World) (N : Nat) (pv : Value) (l : List UInt8) : Prop :=
  (pv = .slice none 0 0 ∧ l = []) ∨ ∃ ad c, pv = .slice (some ad) l.length c ∧ (l ≠ [] → ad.block < N) ∧ ∀ j u, (bys l)[j]? = some u → w.cell? (ad.add j) = some u
theorem info5 : (Try.prog.info? 5).map (fun i => (i.zero, i.size, i.bytes)) = some (some (.int .u8 0), 1, 1) := by kernel_rfl
/-- string(b) of a row of bytes. -/
theorem str_of {w : World} {base : Nat} {a : Option Addr} {n c : Nat} {l : List UInt8} (h : w.ownsRow base 5 1 (.slice a n c) n (bys l)) : (convert 26 9 (.slice a n c)).run Try.prog w = .ok (.string ⟨l.toArray⟩) w := by
  have hn : l.length = n := by
    have := h.1
    rw [bys_length] at this
    omega
  subst hn
  rcases h.2 with ⟨hv, h0⟩ | ⟨g, cap, cur, hv, _, hh, hc, _, _, ht⟩
  · injection hv with h1 _ _
    subst h1
    have : l = [] := List.length_eq_zero_iff.1 h0
    subst this
    exact run_convert_bytes_nil w 26 5 Try.underlying26 Try.underlying5 _ _ 9 Try.underlying9
  · injection hv with h1 _ _
    subst h1
    refine run_convert_bytes_back w 26 9 5 _ c l Try.underlying26 Try.underlying5 Try.underlying9 (fun j hj => ?_)
    rw [cell_at hh j]
    have h2 : (bys l)[j]? = some (.int .u8 (l[j].toNat : Int)) := by simp [bys, hj]
    rw [← ht, List.getElem?_take_of_lt (by omega)] at h2
    simpa using h2

/-! ### a strip -/
/-- room, bytes, how many are safe, is it dead, its fuse (-1: none). -/
structure St where
  room : Nat
  L : List UInt8
  safe : Nat
  dead : Bool
  fuse : Int
structure St.Fit (S : St) : Prop where
  room : S.room ≤ 65536
  len : S.L.length ≤ S.room
  safe : S.safe ≤ S.L.length
  lo : -1 ≤ S.fuse
  hi : S.fuse ≤ 9223372036854775807
def St.live (S : St) : Bool := !S.dead && decide (S.fuse ≠ 0)
def St.tick (S : St) : St := if S.dead then S else if S.fuse = 0 then { S with dead := true } else { S with fuse := if S.fuse - 1 < -1 then -1 else S.fuse - 1 }
def St.write (S : St) (p : List UInt8) : St × Int := if S.live = false then (S.tick, 11) else if S.room < S.L.length + p.length then (S.tick, 8) else ({ S.tick with L := S.L ++ p }, 0)
def St.sync (S : St) : St × Int := if S.live = false then (S.tick, 11) else ({ S.tick with safe := S.L.length }, 0)
def St.cut (S : St) (n : Int) : St × Int := if S.live = false then (S.tick, 11) else if n < 0 ∨ (S.L.length : Int) < n then (S.tick, 1) else ({ S.tick with L := S.L.take n.toNat, safe := min S.safe n.toNat }, 0)
def St.setFuse (S : St) (n : Int) : St := { S with fuse := if n < -1 then -1 else n }
def St.kept (S : St) (keep : Int) : Nat := S.safe + min keep.toNat (S.L.length - S.safe)
def St.crash (S : St) (keep : Int) : St := { room := S.room, L := S.L.take (S.kept keep), safe := S.kept keep, dead := false, fuse := -1 }
def St.new (room : Int) : St := { room := min room.toNat 65536, L := [], safe := 0, dead := false, fuse := -1 }
theorem tick_room (S : St) : S.tick.room = S.room := by unfold St.tick; split <;> (try split) <;> rfl
theorem tick_L (S : St) : S.tick.L = S.L := by unfold St.tick; split <;> (try split) <;> rfl
theorem tick_safe (S : St) : S.tick.safe = S.safe := by unfold St.tick; split <;> (try split) <;> rfl
theorem tick_fit {S : St} (h : S.Fit) : S.tick.Fit := by
  obtain ⟨h1, h2, h3, h4, h5⟩ := h
  unfold St.tick
  split
  · exact ⟨h1, h2, h3, h4, h5⟩
  · split
    · exact ⟨h1, h2, h3, h4, h5⟩
    · refine ⟨h1, h2, h3, ?_, ?_⟩ <;> simp only <;> split <;> omega
theorem write_fit {S : St} (h : S.Fit) (p : List UInt8) : (S.write p).1.Fit := by
  have ht := tick_fit h
  unfold St.write
  split
  · exact ht
  · split
    · exact ht
    · obtain ⟨h1, h2, h3, h4, h5⟩ := h
      refine ⟨ht.room, ?_, ?_, ht.lo, ht.hi⟩ <;> simp only [List.length_append, tick_room, tick_safe] <;> omega
theorem sync_fit {S : St} (h : S.Fit) : S.sync.1.Fit := by
  have ht := tick_fit h
  unfold St.sync
  split
  · exact ht
  · exact ⟨ht.room, ht.len, by simp only [tick_L]; exact Nat.le_refl _, ht.lo, ht.hi⟩
theorem cut_fit {S : St} (h : S.Fit) (n : Int) : (S.cut n).1.Fit := by
  have ht := tick_fit h
  unfold St.cut
  split
  · exact ht
  · split
    · exact ht
    · obtain ⟨h1, h2, h3, h4, h5⟩ := h
      refine ⟨ht.room, ?_, ?_, ht.lo, ht.hi⟩ <;> simp only [List.length_take, tick_room] <;> omega
theorem crash_fit {S : St} (h : S.Fit) (k : Int) : (S.crash k).Fit := by
  obtain ⟨h1, h2, h3, h4, h5⟩ := h
  refine ⟨h1, ?_, ?_, by simp [St.crash], by simp [St.crash]⟩ <;> simp only [St.crash, List.length_take, St.kept] <;> omega
theorem fuse_fit {S : St} (h : S.Fit) (n : Int) (hn : n ≤ 9223372036854775807) : (S.setFuse n).Fit := by
  obtain ⟨h1, h2, h3, h4, h5⟩ := h
  refine ⟨h1, h2, h3, ?_, ?_⟩ <;> simp only [St.setFuse] <;> split <;> omega
theorem new_fit (r : Int) : (St.new r).Fit := ⟨by simp only [St.new]; omega, by simp [St.new], by simp [St.new], by simp [St.new], by simp [St.new]⟩
end Go.Proofs.Ytakpmnlakgkgpaa
