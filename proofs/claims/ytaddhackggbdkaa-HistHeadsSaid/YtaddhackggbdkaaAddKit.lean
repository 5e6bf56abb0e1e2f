/- What the walk of Index.Add wants: worlds behind its steps; plain Lean, no walk; no condition. -/
import Derived.Test.YtaddhackggbdkaaKeys
import Derived.Deep.RegionHeld3
namespace Go.Proofs.Ytaddhackggbdkaa
open Go.RowKit Go.Maps Go.Proofs.YtaddhackggbdkaaW.PrintWords Go.Proofs.YtaddhackggbdkaaW.PrintLast Go.Proofs.YtaddhackggbdkaaW.PrintMore PHistTells
theorem IxAt.head {w w1 w2 w3 : World} {k T : TypeId} {fv : Value} {F : Nat → Prop} {B ib mb : Nat} {key : S39 → Lit} {l : List S39} {V : Lit → Value} {kl : Lit} (h : IxAt w k T fv F B ib key l mb V)
    (hb1 : Below w.heap.size w w1) (hg2 : w1.grownBy w2 (V kl).ownBlock) (hg3 : w2.grownBy w3 (some mb)) : w3.heap[ib]? = some (.cells #[fv, .map (some mb), .int .i64 (l.length : Int)] T (0, 0)) := by
  have s1 := hb1.size
  have s2 := hg2.size
  obtain ⟨hiB, hilt⟩ := h.low ib h.fi
  obtain ⟨es, clock, hmap⟩ := h.mp.lt.2
  have him : ib ≠ mb := by
    intro e1
    rw [← e1, h.hd] at hmap
    cases hmap
  have hir : (V kl).ownBlock ≠ some ib := fun e1 => by
    obtain ⟨_, _, cur, hc⟩ := (h.own kl).lt e1
    rw [h.hd] at hc
    injection hc with hc
    injection hc with _ ht _
    exact h.ne ht
  rw [hg3.block ib (by omega) (fun e1 => him (by injection e1)), hg2.block ib (by omega) (fun e1 => hir e1.symm), hb1.block ib hilt]
  exact h.hd
theorem IxAt.widen {w : World} {k T : TypeId} {fv : Value} {F F' : Nat → Prop} {B ib mb : Nat} {key : S39 → Lit} {l : List S39} {V : Lit → Value} (h : IxAt w k T fv F B ib key l mb V) (hF : ∀ i, F i → F' i) (hl : ∀ i, F' i → B ≤ i ∧ i < w.heap.size) : IxAt w k T fv F' B ib key l mb V :=
  ⟨h.hd, h.mp, h.own, h.apart, hF _ h.fi, hF _ h.fm, fun kl g hg => hF _ (h.fr kl g hg), hl, h.ne⟩
theorem zero22 (w : World) : (zeroValue 22).run Try.prog w = .ok nilS w := by kernel_rfl
theorem rd_one {w : World} {g : Nat} {x : S39} (h : w.heap[g]? = some (.cells #[.int .i64 x.f0, .bool x.f1, .int .i64 x.f2, .int .i64 x.f3, .int .i64 x.f4] 39 (0, 0))) : Rd w (some ⟨g, 0, none⟩) [x] :=
  .inr ⟨⟨g, 0, none⟩, rfl, (Array.getElem?_eq_some_iff.1 h).1, fun j u hj => by
    rw [cell_at h j]
    simpa [evs, ev] using hj⟩
theorem five {w : World} {g : Nat} {x : S39} (h : w.heap[g]? = some (.cells #[.int .i64 x.f0, .bool x.f1, .int .i64 x.f2, .int .i64 x.f3, .int .i64 x.f4] 39 (0, 0))) :
    w.cell? ⟨g, 0, none⟩ = some (.int .i64 x.f0) ∧ w.cell? ⟨g, 1, none⟩ = some (.bool x.f1) ∧ w.cell? ⟨g, 2, none⟩ = some (.int .i64 x.f2) ∧ w.cell? ⟨g, 3, none⟩ = some (.int .i64 x.f3) ∧ w.cell? ⟨g, 4, none⟩ = some (.int .i64 x.f4) :=
  ⟨cell_of h 0, cell_of h 1, cell_of h 2, cell_of h 3, cell_of h 4⟩
/-- A key's slice is read in what comes of the world by new blocks alone. -/
theorem IxAt.own1 {w w1 : World} {k T : TypeId} {fv : Value} {F : Nat → Prop} {B ib mb : Nat} {key : S39 → Lit} {l : List S39} {V : Lit → Value} (h : IxAt w k T fv F B ib key l mb V) (hb1 : Below w.heap.size w w1) (kl : Lit) : Own w1 B (V kl) (grp key l kl) :=
  (h.own kl).same fun g hg => hb1.block g ((h.own kl).lt hg).2.1
theorem IxAt.apart5 {w w2 w5 : World} {k T : TypeId} {fv : Value} {F : Nat → Prop} {B ib mb : Nat} {key : S39 → Lit} {l : List S39} {V : Lit → Value} {kl : Lit} {o : Obj} (h : IxAt w k T fv F B ib key l mb V) (hb : Below w.heap.size w w2) (hs : w.heap.size < w2.heap.size)
    (hg : (w2.alloc o).drew.grownBy w5 (V kl).ownBlock) : (w5.heap[ib]? = w2.heap[ib]? ∧ w5.heap[w.heap.size]? = w2.heap[w.heap.size]?) ∧ MapV w5 k mb l.length V := by
  obtain ⟨es, clock, hmap⟩ := h.mp.lt.2
  have hsz : (w2.alloc o).drew.heap.size = w2.heap.size + 1 := by simp
  have hne : ∀ i, (V kl).ownBlock = some i → i ≠ ib ∧ i ≠ mb ∧ i < w.heap.size := fun i e1 => by
    obtain ⟨_, hlt, cur, hc⟩ := (h.own kl).lt e1
    refine ⟨fun e2 => ?_, fun e2 => ?_, hlt⟩
    · rw [e2, h.hd] at hc
      injection hc with hc
      injection hc with _ ht _
      exact h.ne ht
    · rw [e2, hmap] at hc
      cases hc
  have hold : ∀ i, i < w2.heap.size → (V kl).ownBlock ≠ some i → w5.heap[i]? = w2.heap[i]? := fun i hi hn => by
    rw [hg.block i (by omega) (fun e1 => hn e1.symm)]
    exact Below.heap_alloc w2 o i hi
  have s2 := hb.size
  have hiblt := (h.low ib h.fi).2
  have hmblt := (h.low mb h.fm).2
  refine ⟨⟨hold ib (by omega) (fun e1 => (hne ib e1).1 rfl), hold _ hs (fun e1 => absurd (hne _ e1).2.2 (by omega))⟩, h.mp.same ?_⟩
  rw [hold mb (by omega) (fun e1 => (hne mb e1).2.1 rfl)]
  exact hb.block mb hmblt
theorem keep6 {w w2 w5 w6 : World} {k T : TypeId} {fv : Value} {F : Nat → Prop} {B ib mb : Nat} {key : S39 → Lit} {l : List S39} {V : Lit → Value} {R : Prop} (h : IxAt w k T fv F B ib key l mb V) (hb : Below w.heap.size w w2)
    (h5 : (w5.heap[ib]? = w2.heap[ib]? ∧ w5.heap[w.heap.size]? = w2.heap[w.heap.size]?) ∧ R) (hs5 : w2.heap.size ≤ w5.heap.size) (hs : w.heap.size < w2.heap.size) (hg : w5.grownBy w6 (some mb)) : w6.heap[ib]? = w2.heap[ib]? ∧ w6.heap[w.heap.size]? = w2.heap[w.heap.size]? := by
  obtain ⟨es, clock, hmap⟩ := h.mp.lt.2
  have him : ib ≠ mb := by
    intro e1
    rw [← e1, h.hd] at hmap
    cases hmap
  have hiblt := (h.low ib h.fi).2
  have hmblt := (h.low mb h.fm).2
  have s2 := hb.size
  exact ⟨(hg.block ib (by omega) (fun e1 => him (by injection e1))).trans h5.1.1, (hg.block _ (by omega) (fun e1 => by injection e1 with e1; omega)).trans h5.1.2⟩
theorem event_at {w : World} {A : Option Addr} {p : List S39} (h : Rd w A p) (hn : p.length ≤ 1000000) {j : Nat} (hj : j < p.length) :
    ∃ ad, A = some ad ∧ ad.block < w.heap.size ∧ w.cell? (ad.add (j * 5)) = some (.int .i64 (p[j]).f0) ∧ w.cell? ⟨(ad.add (j * 5)).block, (ad.add (j * 5)).off + 1, none⟩ = some (.bool (p[j]).f1) ∧ w.cell? ⟨(ad.add (j * 5)).block, (ad.add (j * 5)).off + 2, none⟩ = some (.int .i64 (p[j]).f2) ∧ w.cell? ⟨(ad.add (j * 5)).block, (ad.add (j * 5)).off + 3, none⟩ = some (.int .i64 (p[j]).f3) ∧ w.cell? ⟨(ad.add (j * 5)).block, (ad.add (j * 5)).off + 4, none⟩ = some (.int .i64 (p[j]).f4) := by
  obtain ⟨ad, e, h0, h1, h2, h3, h4⟩ := at_T39 (h.C hn) (j : Int) (by omega) (by omega)
  have hr : rd_T39 p (j : Int) = p[j] := by simp [rd_T39, List.getD, hj]
  rw [hr] at h0 h1 h2 h3 h4
  simp only [Int.toNat_natCast] at h0 h1 h2 h3 h4
  have hb := lt_of_cell h0
  rw [add_block] at hb
  exact ⟨ad, e, hb, h0, h1, h2, h3, h4⟩
end Go.Proofs.Ytaddhackggbdkaa
