/- What an index of events is in memory, and what a round of Add leaves: plain Lean over the machine's worlds, no walk; no condition. -/
import Derived.Test.YtaddhackggbdkaaBase
import Derived.DeepKeys4
namespace Go.Proofs.Ytaddhackggbdkaa
open Go.RowKit Go.Maps Go.Proofs.YtaddhackggbdkaaW.PrintWords Go.Proofs.YtaddhackggbdkaaW.PrintLast Go.Proofs.YtaddhackggbdkaaW.PrintMore PHistTells
/-- A map's elements are told as they are. -/
def HR (v : Value) : Option (DataW Value × List MemPlace) := some (.held v, [])
def nilS : Value := .slice none 0 0
/-- Block b is a map, keyed by k, of at most n entries; V kl is its element at kl. -/
def MapV (w : World) (k : TypeId) (b n : Nat) (V : Lit → Value) : Prop := ∃ D : DataW Value, w.ownsMap Try.prog k HR b n D ∧ ∀ kl, D.atKey kl (.held nilS) = .held (V kl)
theorem MapV.made (w : World) (k : TypeId) : MapV (w.alloc (.map #[] 0)) k w.heap.size 0 (fun _ => nilS) := ⟨_, World.ownsMap_made w Try.prog k HR, fun _ => rfl⟩
theorem MapV.same {w w' : World} {k : TypeId} {b n : Nat} {V : Lit → Value} (h : MapV w k b n V) (hb : w'.heap[b]? = w.heap[b]?) : MapV w' k b n V := by
  obtain ⟨D, ⟨es, clock, h1, h2⟩, h3⟩ := h
  exact ⟨D, ⟨es, clock, hb.trans h1, h2⟩, h3⟩
theorem MapV.lt {w : World} {k : TypeId} {b n : Nat} {V : Lit → Value} (h : MapV w k b n V) : b < w.heap.size ∧ ∃ es clock, w.heap[b]? = some (.map es clock) := by
  obtain ⟨D, h1, _⟩ := h
  refine ⟨h1.lt, ?_⟩
  obtain ⟨es, clock, h1, _⟩ := h1
  exact ⟨es, clock, h1⟩
theorem MapV.look {w : World} {k t e : TypeId} {b n : Nat} {V : Lit → Value} {key : Value} {kl : Lit} (h : MapV w k b n V) (K : Keyed Try.prog k) (ht : Try.prog.underlying t = some (.map k e)) (hz : (zeroValue e).run Try.prog w = .ok nilS w) (hkey : keyOf Try.prog k key = some kl) :
    (Instr.lookup t (.map (some b)) key false).run Try.prog w = .ok (V kl) w := by
  obtain ⟨D, h1, h2⟩ := h
  obtain ⟨v, ps, hrun, hv⟩ := h1.lookup K ht hz (zd := .held nilS) (zp := []) rfl hkey
  rw [h2 kl] at hv
  simp only [HR, Option.some.injEq, Prod.mk.injEq, DataW.held.injEq] at hv
  rw [← hv.1]
  exact hrun
theorem MapV.store {w : World} {k t e : TypeId} {b n : Nat} {V : Lit → Value} {key v : Value} {kl : Lit} (h : MapV w k b n V) (K : Keyed Try.prog k) (ht : Try.prog.underlying t = some (.map k e)) (hn : n < maxLen) (hkey : keyOf Try.prog k key = some kl) :
    ∃ w' V', (Instr.mapUpdate t (.map (some b)) key v).run Try.prog w = .ok () w' ∧ MapV w' k b (n + 1) V' ∧ w.grownBy w' (some b) ∧ V' kl = v ∧ ∀ x, x ≠ kl → V' x = V x := by
  classical
  obtain ⟨D, h1, h2⟩ := h
  have hD := h1.isMap
  obtain ⟨w', hrun, h3, h4⟩ := h1.update (val := v) (d := .held v) (ps := []) K ht hn hkey rfl
  refine ⟨w', fun x => if x = kl then v else V x, hrun, ⟨_, h3, fun x => ?_⟩, h4, if_pos rfl, fun x hx => if_neg hx⟩
  dsimp only
  by_cases hx : x = kl
  · subst hx
    rw [if_pos rfl]
    exact Maps.atKey_put_same hD (K.key hkey) _ _
  · rw [if_neg hx, Maps.atKey_put_other hx]
    exact h2 x
/-- The events whose key is kl. -/
def grp (key : S39 → Lit) (l : List S39) (kl : Lit) : List S39 := l.filter fun e => (key e).sameKey kl
theorem grp_self {key : S39 → Lit} {l : List S39} {e : S39} (h : WideAt.IsKeyLit (key e)) : grp key (l ++ [e]) (key e) = grp key l (key e) ++ [e] := by
  unfold grp
  rw [List.filter_append, List.filter_cons, if_pos (WideAt.sameKey_self h), List.filter_nil]
theorem grp_other {key : S39 → Lit} {l : List S39} {e : S39} {kl : Lit} (h : kl ≠ key e) : grp key (l ++ [e]) kl = grp key l kl := by
  unfold grp
  rw [List.filter_append, List.filter_cons, if_neg (fun hc => h (WideAt.sameKey_eq hc).symm), List.filter_nil, List.append_nil]
theorem grp_len (key : S39 → Lit) (l : List S39) (kl : Lit) : (grp key l kl).length ≤ l.length := List.length_filter_le _ _
/-- What a call has turned: blocks of F, and new ones. -/
structure Turn (w w' : World) (F : Nat → Prop) : Prop where
  os : w'.os = w.os
  tape : w'.tape = w.tape
  output : w'.output = w.output
  size : w.heap.size ≤ w'.heap.size
  block : ∀ i, i < w.heap.size → ¬ F i → w'.heap[i]? = w.heap[i]?
theorem Turn.refl (w : World) (F : Nat → Prop) : Turn w w F := ⟨rfl, rfl, rfl, Nat.le_refl _, fun _ _ _ => rfl⟩
theorem Turn.trans {w w' w'' : World} {F G : Nat → Prop} (h : Turn w w' F) (h' : Turn w' w'' G) (hG : ∀ i, i < w.heap.size → G i → F i) : Turn w w'' F :=
  ⟨h'.os.trans h.os, h'.tape.trans h.tape, h'.output.trans h.output, Nat.le_trans h.size h'.size, fun i hi hF => (h'.block i (Nat.lt_of_lt_of_le hi h.size) (fun hg => hF (hG i hi hg))).trans (h.block i hi hF)⟩
theorem Turn.of_below {w w' : World} (F : Nat → Prop) (h : Below w.heap.size w w') : Turn w w' F := ⟨h.os, h.tape, h.output, h.size, fun i hi _ => h.block i hi⟩
theorem Turn.below {w w' : World} {F : Nat → Prop} {B : Nat} (h : Turn w w' F) (hF : ∀ i, F i → B ≤ i) (hB : B ≤ w.heap.size) : Below B w w' :=
  ⟨h.os, h.tape, h.output, h.size, fun i hi => h.block i (Nat.lt_of_lt_of_le hi hB) (fun hf => absurd (hF i hf) (by omega))⟩
theorem Turn.of_grown {w w' : World} {F : Nat → Prop} {row : Option Nat} (h : w.grownBy w' row) (hF : ∀ i, some i = row → F i) : Turn w w' F := ⟨h.os, h.tape, h.output, h.size, fun i hi hf => h.block i hi (fun e => hf (hF i e))⟩
theorem Turn.of_set (w : World) (a : Addr) (u : Value) {F : Nat → Prop} (hF : F a.block) : Turn w (w.setCell a u) F := ⟨rfl, rfl, rfl, by rw [set_size]; exact Nat.le_refl _, fun i _ hf => set_other _ _ _ _ (fun e => hf (e ▸ hF))⟩
theorem Turn.more {w w' : World} {F G : Nat → Prop} (h : Turn w w' F) (hF : ∀ i, F i → G i) : Turn w w' G := ⟨h.os, h.tape, h.output, h.size, fun i hi hg => h.block i hi (fun hf => hg (hF i hf))⟩
/-- An index: its struct (type T) at ib, its map at mb, the element at a key: the events of that key; all its blocks are F's. -/
structure IxAt (w : World) (k T : TypeId) (fv : Value) (F : Nat → Prop) (B ib : Nat) (key : S39 → Lit) (l : List S39) (mb : Nat) (V : Lit → Value) : Prop where
  hd : w.heap[ib]? = some (.cells #[fv, .map (some mb), .int .i64 (l.length : Int)] T (0, 0))
  mp : MapV w k mb l.length V
  own : ∀ kl, Own w B (V kl) (grp key l kl)
  apart : ∀ kl kl' g, kl ≠ kl' → (V kl).ownBlock = some g → (V kl').ownBlock ≠ some g
  fi : F ib
  fm : F mb
  fr : ∀ kl g, (V kl).ownBlock = some g → F g
  low : ∀ i, F i → B ≤ i ∧ i < w.heap.size
  ne : T ≠ 39
theorem IxAt.same {w w' : World} {k T : TypeId} {fv : Value} {F : Nat → Prop} {B ib mb : Nat} {key : S39 → Lit} {l : List S39} {V : Lit → Value} (h : IxAt w k T fv F B ib key l mb V) (hs : w.heap.size ≤ w'.heap.size) (hb : ∀ i, F i → w'.heap[i]? = w.heap[i]?) : IxAt w' k T fv F B ib key l mb V :=
  ⟨(hb _ h.fi).trans h.hd, h.mp.same (hb _ h.fm), fun kl => (h.own kl).same (fun g hg => hb _ (h.fr kl g hg)), h.apart, h.fi, h.fm, h.fr, fun i hi => ⟨(h.low i hi).1, Nat.lt_of_lt_of_le (h.low i hi).2 hs⟩, h.ne⟩
theorem IxAt.below {w w' : World} {k T : TypeId} {fv : Value} {F : Nat → Prop} {B ib mb : Nat} {key : S39 → Lit} {l : List S39} {V : Lit → Value} (h : IxAt w k T fv F B ib key l mb V) (hb : Below w.heap.size w w') : IxAt w' k T fv F B ib key l mb V :=
  h.same hb.size fun i hi => hb.block i (h.low i hi).2
/-- What a round leaves: new blocks (w1), the key's row grown (w2), the map's store (w3), the count (the cell 2). -/
theorem IxAt.round {w w1 w2 w3 : World} {k T : TypeId} {fv : Value} {F : Nat → Prop} {B ib mb : Nat} {key : S39 → Lit} {l : List S39} {V V' : Lit → Value} {e : S39} {v' : Value} (h : IxAt w k T fv F B ib key l mb V) (hk : WideAt.IsKeyLit (key e))
    (hb1 : Below w.heap.size w w1) (hg2 : w1.grownBy w2 (V (key e)).ownBlock) (ho : Own w2 B v' (grp key l (key e) ++ [e])) (hloc : v'.ownBlock = (V (key e)).ownBlock ∨ v'.ownBlock = some w1.heap.size)
    (hg3 : w2.grownBy w3 (some mb)) (hm : MapV w3 k mb (l.length + 1) V') (hV : V' (key e) = v') (hV' : ∀ x, x ≠ key e → V' x = V x) :
    IxAt (w3.setCell ⟨ib, 2, none⟩ (.int .i64 ((l ++ [e]).length : Int))) k T fv (fun i => F i ∨ (w.heap.size ≤ i ∧ i < w3.heap.size)) B ib key (l ++ [e]) mb V' ∧ Turn w (w3.setCell ⟨ib, 2, none⟩ (.int .i64 ((l ++ [e]).length : Int))) F := by
  have s1 := hb1.size
  have s2 := hg2.size
  have s3 := hg3.size
  obtain ⟨hiB, hilt⟩ := h.low ib h.fi
  obtain ⟨hmB, hmlt⟩ := h.low mb h.fm
  obtain ⟨es, clock, hmap⟩ := h.mp.lt.2
  have him : ib ≠ mb := by
    intro e1
    rw [← e1, h.hd] at hmap
    cases hmap
  have hir : ∀ kl, (V kl).ownBlock ≠ some ib := fun kl e1 => by
    obtain ⟨_, _, cur, hc⟩ := (h.own kl).lt e1
    rw [h.hd] at hc
    injection hc with hc
    injection hc with _ ht _
    exact h.ne ht
  have hmr : ∀ kl, (V kl).ownBlock ≠ some mb := fun kl e1 => by
    obtain ⟨_, _, cur, hc⟩ := (h.own kl).lt e1
    rw [hmap] at hc
    cases hc
  have hi3 : w3.heap[ib]? = w.heap[ib]? := by
    rw [hg3.block ib (by omega) (fun e1 => him (by injection e1)), hg2.block ib (by omega) (fun e1 => hir _ e1.symm), hb1.block ib hilt]
  have hd3 : w3.heap[ib]? = some (.cells #[fv, .map (some mb), .int .i64 (l.length : Int)] T (0, 0)) := hi3.trans h.hd
  have hnb : ∀ g, v'.ownBlock = some g → g ≠ ib ∧ g ≠ mb ∧ g < w2.heap.size ∧ (F g ∨ w.heap.size ≤ g) := fun g hg => by
    have hlt := (ho.lt hg).2.1
    rcases hloc with e1 | e1
    · rw [e1] at hg
      exact ⟨fun e2 => hir _ (e2 ▸ hg), fun e2 => hmr _ (e2 ▸ hg), hlt, .inl (h.fr _ g hg)⟩
    · rw [e1] at hg
      injection hg with hg
      exact ⟨by omega, by omega, hlt, .inr (by omega)⟩
  refine ⟨⟨?_, ?_, ?_, ?_, .inl h.fi, .inl h.fm, ?_, ?_, h.ne⟩, ?_⟩
  · rw [blk_set hd3 2]
    rfl
  · rw [List.length_append]
    exact hm.same (set_other _ _ _ _ (fun e1 => him e1.symm))
  · intro kl
    by_cases hkl : kl = key e
    · subst hkl
      rw [hV, grp_self hk]
      refine ho.same fun g hg => ?_
      obtain ⟨n1, n2, n3, _⟩ := hnb g hg
      rw [set_other _ _ _ _ n1, hg3.block g n3 (fun e1 => n2 (by injection e1))]
    · rw [hV' kl hkl, grp_other hkl]
      refine (h.own kl).same fun g hg => ?_
      have hlt := ((h.own kl).lt hg).2.1
      rw [set_other _ _ _ _ (fun e1 => hir kl (by rw [hg]; exact congrArg some e1)), hg3.block g (by omega) (fun e1 => hmr kl (by rw [hg]; exact e1)), hg2.block g (by omega) (fun e1 => h.apart kl (key e) g hkl hg e1.symm), hb1.block g hlt]
  · intro kl kl' g hne hg
    by_cases h1 : kl = key e
    · subst h1
      rw [hV] at hg
      rw [hV' kl' (fun e1 => hne e1.symm)]
      intro hg'
      rcases hloc with e1 | e1
      · rw [e1] at hg
        exact h.apart _ _ g hne hg hg'
      · rw [e1] at hg
        injection hg with hg
        have := ((h.own kl').lt hg').2.1
        omega
    · rw [hV' kl h1] at hg
      by_cases h2 : kl' = key e
      · subst h2
        rw [hV]
        intro hg'
        rcases hloc with e1 | e1
        · rw [e1] at hg'
          exact h.apart _ _ g hne hg hg'
        · rw [e1] at hg'
          injection hg' with hg'
          have := ((h.own kl).lt hg).2.1
          omega
      · rw [hV' kl' h2]
        exact h.apart kl kl' g hne hg
  · intro kl g hg
    by_cases h1 : kl = key e
    · subst h1
      rw [hV] at hg
      obtain ⟨_, _, n3, n4⟩ := hnb g hg
      rcases n4 with n4 | n4
      · exact .inl n4
      · exact .inr ⟨n4, by omega⟩
    · rw [hV' kl h1] at hg
      exact .inl (h.fr kl g hg)
  · intro i hi
    rw [set_size]
    rcases hi with hi | hi
    · have := h.low i hi
      exact ⟨this.1, by omega⟩
    · exact ⟨by omega, hi.2⟩
  · refine ⟨hg3.os.trans (hg2.os.trans hb1.os), hg3.tape.trans (hg2.tape.trans hb1.tape), hg3.output.trans (hg2.output.trans hb1.output), by rw [set_size]; omega, fun i hi hF => ?_⟩
    rw [set_other _ _ _ _ (fun e1 => hF (by rw [e1]; exact h.fi)), hg3.block i (by omega) (fun e1 => hF (by injection e1 with e1; exact e1 ▸ h.fm)), hg2.block i (by omega) (fun e1 => hF (h.fr _ i e1.symm)), hb1.block i hi]
theorem laidOut0 : laidOutB Try.prog = true := by kernel_rfl
theorem law63 : Keyed Try.prog 63 := Keyed.of_law (deep_law_laid (m := 8) laidOut0 (by decide) (of_decide_eq_true (by kernel_rfl)) (by kernel_rfl) (by kernel_rfl))
theorem law3 : Keyed Try.prog 3 := int_keyed Try.underlying3
theorem law9 : Keyed Try.prog 9 := string_keyed Try.underlying9
/-- What a subject reads as, as a key. -/
def subLit (b : Bool) (n : Int) : Lit := .string (keyBytes [.bool b, .int .i64 n])
theorem keyOf_sub (b : Bool) (n : Int) (hw : (Lit.int .i64 n).wf = true) : keyOf Try.prog 63 (.agg #[.bool b, .int .i64 n]) = some (subLit b n) := by
  have hkt : Try.prog.keyType 63 = true := by kernel_rfl
  have hc : Try.prog.cellsOf 63 = 2 := by kernel_rfl
  have hc4 : Try.prog.cellsOf 4 = 1 := by kernel_rfl
  have hc3 : Try.prog.cellsOf 3 = 1 := by kernel_rfl
  obtain ⟨m, hm⟩ : ∃ m, Try.prog.types.size = m + 1 := ⟨Try.prog.types.size - 1, by
    have : decide (0 < Try.prog.types.size) = true := by kernel_rfl
    have := of_decide_eq_true this
    omega⟩
  unfold keyOf
  simp only [Try.underlying63]
  rw [if_pos (by simp [hkt, Value.formed, Try.underlying63, hc]), hm]
  unfold Program.keyLits
  simp only [Try.underlying63, Value.cells]
  rw [if_pos (by simp [hc])]
  simp [Program.keyLits, Try.underlying4, Try.underlying3, hc4, hc3, hw, subLit]
end Go.Proofs.Ytaddhackggbdkaa
