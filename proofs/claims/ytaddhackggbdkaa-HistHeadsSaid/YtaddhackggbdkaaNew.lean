/- New indices and histories, walked; what a history is in memory; no condition. -/
import Derived.Test.YtaddhackggbdkaaGet
namespace Go.Proofs.Ytaddhackggbdkaa
open Go.RowKit Go.Maps Go.Proofs.YtaddhackggbdkaaW.PrintWords Go.Proofs.YtaddhackggbdkaaW.PrintLast Go.Proofs.YtaddhackggbdkaaW.PrintMore PHistTells
theorem IxAt.made (w : World) (k T : TypeId) (fv : Value) (key : S39 → Lit) (hne : T ≠ 39) : ∀ W, (w.alloc (.map #[] 0)).alloc (.cells #[fv, .map (some w.heap.size), .int .i64 0] T) = W →
    IxAt W k T fv (fun i => w.heap.size ≤ i ∧ i < W.heap.size) w.heap.size (w.heap.size + 1) key [] w.heap.size (fun _ => nilS) ∧ Below w.heap.size w W ∧ W.heap.size = w.heap.size + 2 := by
  rintro W rfl
  have hs : ((w.alloc (.map #[] 0)).alloc (.cells #[fv, .map (some w.heap.size), .int .i64 0] T)).heap.size = w.heap.size + 2 := by simp
  have hb : Below w.heap.size w ((w.alloc (.map #[] 0)).alloc (.cells #[fv, .map (some w.heap.size), .int .i64 0] T)) := ((Below.refl _ _).alloc (Nat.le_refl _) _).alloc (by simp) _
  refine ⟨⟨?_, ?_, fun kl => Own.nil _ _, fun kl kl' g _ hg => by simp [nilS, Value.ownBlock] at hg, ⟨by omega, by omega⟩, ⟨Nat.le_refl _, by omega⟩, fun kl g hg => by simp [nilS, Value.ownBlock] at hg, fun i hi => hi, hne⟩, hb, hs⟩
  · have h := heap_alloc_new (w.alloc (.map #[] 0)) (.cells #[fv, .map (some w.heap.size), .int .i64 0] T)
    rw [show (w.alloc (.map #[] 0)).heap.size = w.heap.size + 1 by simp] at h
    exact h
  · exact (MapV.made w k).same (Below.heap_alloc _ _ _ (by simp))
theorem new33 (g : Nat) (lb : Array Value) (w : World) : Calls Try.prog 33 #[.func (.func g) #[] lb] w fun e w' => e = .returned (.pointer (some ⟨w.heap.size + 1, 0, none⟩)) ∧ IxAt w' 63 101 (.func (.func g) #[] lb) (fun i => w.heap.size ≤ i ∧ i < w'.heap.size) w.heap.size (w.heap.size + 1) key36 [] w.heap.size (fun _ => nilS) ∧ Below w.heap.size w w' ∧ w'.heap.size = w.heap.size + 2 := by
  have hmm := @run_makeMap Try.prog
  go_enter Try.func33, Try.ntmps33
  go_wp2_with fail
  go_ret
  exact ⟨rfl, IxAt.made w 63 101 _ key36 (by decide) _ rfl⟩
theorem new19 (g : Nat) (lb : Array Value) (key : S39 → Lit) (w : World) : Calls Try.prog 19 #[.func (.func g) #[] lb] w fun e w' => e = .returned (.pointer (some ⟨w.heap.size + 1, 0, none⟩)) ∧ IxAt w' 3 73 (.func (.func g) #[] lb) (fun i => w.heap.size ≤ i ∧ i < w'.heap.size) w.heap.size (w.heap.size + 1) key [] w.heap.size (fun _ => nilS) ∧ Below w.heap.size w w' ∧ w'.heap.size = w.heap.size + 2 := by
  have hmm := @run_makeMap Try.prog
  go_enter Try.func19, Try.ntmps19
  go_wp2_with fail
  go_ret
  exact ⟨rfl, IxAt.made w 3 73 _ key (by decide) _ rfl⟩
/-- The events that are no files'. -/
def plan (l : List S39) : List S39 := l.filter fun e => !e.f1
/-- A history: its struct at hb, its row (l1), its two indices (of l2, of l3); all lie from B on, apart. -/
structure HistG (w : World) (B hb : Nat) (l1 l2 l3 : List S39) (lv : Value) (ib jb mb nb : Nat) (F G : Nat → Prop) (V U : Lit → Value) : Prop where
  hd : w.heap[hb]? = some (.cells #[lv, .pointer (some ⟨ib, 0, none⟩), .pointer (some ⟨jb, 0, none⟩)] 66 (0, 0))
  row : Own w B lv l1
  items : IxAt w 63 101 (.func (.func 34) #[] #[]) F B ib key36 l2 mb V
  insts : IxAt w 3 73 (.func (.func 35) #[] #[]) G B jb key23 l3 nb U
  fg : ∀ i, F i → ¬ G i
  fh : ¬ F hb
  gh : ¬ G hb
  fr : ∀ g, lv.ownBlock = some g → ¬ F g ∧ ¬ G g ∧ g ≠ hb
  low : B ≤ hb
/-- The history at hb holds the events l; all its blocks are N's. -/
def HistIn (w : World) (B hb : Nat) (l : List S39) (N : Nat → Prop) : Prop := ∃ lv ib jb mb nb F G V U, HistG w B hb l l (plan l) lv ib jb mb nb F G V U ∧ (∀ i, (F i ∨ G i ∨ i = hb ∨ lv.ownBlock = some i) → N i) ∧ ∀ i, N i → B ≤ i ∧ i < w.heap.size
theorem HistG.same {w w' : World} {B hb : Nat} {l1 l2 l3 : List S39} {lv : Value} {ib jb mb nb : Nat} {F G : Nat → Prop} {V U : Lit → Value} (h : HistG w B hb l1 l2 l3 lv ib jb mb nb F G V U) (hs : w.heap.size ≤ w'.heap.size) (hb' : ∀ i, (F i ∨ G i ∨ i = hb ∨ lv.ownBlock = some i) → w'.heap[i]? = w.heap[i]?) : HistG w' B hb l1 l2 l3 lv ib jb mb nb F G V U :=
  ⟨(hb' hb (.inr (.inr (.inl rfl)))).trans h.hd, h.row.same (fun g hg => hb' g (.inr (.inr (.inr hg)))), h.items.same hs (fun i hi => hb' i (.inl hi)), h.insts.same hs (fun i hi => hb' i (.inr (.inl hi))), h.fg, h.fh, h.gh, h.fr, h.low⟩
theorem HistG.lt {w : World} {B hb : Nat} {l1 l2 l3 : List S39} {lv : Value} {ib jb mb nb : Nat} {F G : Nat → Prop} {V U : Lit → Value} (h : HistG w B hb l1 l2 l3 lv ib jb mb nb F G V U) : ∀ i, (F i ∨ G i ∨ i = hb ∨ lv.ownBlock = some i) → B ≤ i ∧ i < w.heap.size := by
  rintro i (hi | hi | hi | hi)
  · exact h.items.low i hi
  · exact h.insts.low i hi
  · subst hi
    exact ⟨h.low, (Array.getElem?_eq_some_iff.1 h.hd).1⟩
  · exact ⟨(h.row.lt hi).1, (h.row.lt hi).2.1⟩
theorem HistG.below {w w' : World} {B hb : Nat} {l1 l2 l3 : List S39} {lv : Value} {ib jb mb nb : Nat} {F G : Nat → Prop} {V U : Lit → Value} (h : HistG w B hb l1 l2 l3 lv ib jb mb nb F G V U) (hb' : Below w.heap.size w w') : HistG w' B hb l1 l2 l3 lv ib jb mb nb F G V U :=
  h.same hb'.size fun i hi => hb'.block i (h.lt i hi).2
theorem HistIn.below {w w' : World} {B hb : Nat} {l : List S39} {N : Nat → Prop} (h : HistIn w B hb l N) (hb' : Below w.heap.size w w') : HistIn w' B hb l N := by
  obtain ⟨lv, ib, jb, mb, nb, F, G, V, U, h, h2, h3⟩ := h
  exact ⟨lv, ib, jb, mb, nb, F, G, V, U, h.below hb', h2, fun i hi => ⟨(h3 i hi).1, Nat.lt_of_lt_of_le (h3 i hi).2 hb'.size⟩⟩
theorem HistIn.turn {w w' : World} {B hb : Nat} {l : List S39} {N M : Nat → Prop} (h : HistIn w B hb l N) (ht : Turn w w' M) (hm : ∀ i, M i → ¬ N i) : HistIn w' B hb l N := by
  obtain ⟨lv, ib, jb, mb, nb, F, G, V, U, h, h2, h3⟩ := h
  exact ⟨lv, ib, jb, mb, nb, F, G, V, U, h.same ht.size (fun i hi => ht.block i (h.lt i hi).2 (fun hM => hm i hM (h2 i hi))), h2, fun i hi => ⟨(h3 i hi).1, Nat.lt_of_lt_of_le (h3 i hi).2 ht.size⟩⟩
theorem IxAt.weak {w : World} {k T : TypeId} {fv : Value} {F : Nat → Prop} {B B' ib mb : Nat} {key : S39 → Lit} {l : List S39} {V : Lit → Value} (h : IxAt w k T fv F B ib key l mb V) (hB : B' ≤ B) : IxAt w k T fv F B' ib key l mb V :=
  ⟨h.hd, h.mp, fun kl => (h.own kl).weak hB, h.apart, h.fi, h.fm, h.fr, fun i hi => ⟨Nat.le_trans hB (h.low i hi).1, (h.low i hi).2⟩, h.ne⟩
set_option maxRecDepth 100000 in
set_option maxHeartbeats 1000000 in
theorem new8 (w : World) : Calls Try.prog 8 #[] w fun e w' => ∃ hb, e = .returned (.pointer (some ⟨hb, 0, none⟩)) ∧ HistIn w' w.heap.size hb [] (fun i => w.heap.size ≤ i ∧ i < w'.heap.size) ∧ Below w.heap.size w w' := by
  go_enter Try.func8, Try.ntmps8
  go_wp2_with fail
  refine (new33 34 #[] _).mono ?_
  rintro e w1 ⟨rfl, hI, hb1, hs1⟩
  have HI := Lib.hid hI
  have HB1 := Lib.hid hb1
  have HS1 := Lib.hid hs1
  clear hI hb1 hs1
  go_wp2_with fail
  refine (new19 35 #[] key23 _).mono ?_
  rintro e w2 ⟨rfl, hJ, hb2, hs2⟩
  have HJ := Lib.hid hJ
  have HB2 := Lib.hid hb2
  have HS2 := Lib.hid hs2
  clear hJ hb2 hs2
  go_wp2_with fail
  go_ret
  have hb2' : Below w.heap.size w w2 := HB1.out.trans (HB2.out.mono HB1.out.size)
  have hb3 : Below w2.heap.size w2 (w2.alloc (.cells #[.slice none 0 0, .pointer (some ⟨w.heap.size + 1, 0, none⟩), .pointer (some ⟨w1.heap.size + 1, 0, none⟩)] 66)) := (Below.refl _ _).alloc (Nat.le_refl _) _
  have s1 := HS1.out
  have s2 := HS2.out
  refine ⟨w2.heap.size, rfl, ⟨_, _, _, _, _, _, _, _, _, ⟨heap_alloc_new w2 _, Own.nil _ _, (HI.out.below HB2.out).below hb3, ((HJ.out.below hb3).weak HB1.out.size), fun i h1 h2 => ?_, fun h => ?_, fun h => ?_, fun g hg => by simp [Value.ownBlock] at hg, by omega⟩, fun i hi => ?_, fun i hi => hi⟩, hb2'.trans (hb3.mono hb2'.size)⟩
  · have h1 : w.heap.size ≤ i ∧ i < w1.heap.size := h1
    have h2 : w1.heap.size ≤ i ∧ i < w2.heap.size := h2
    omega
  · have h : w.heap.size ≤ w2.heap.size ∧ w2.heap.size < w1.heap.size := h
    omega
  · have h : w1.heap.size ≤ w2.heap.size ∧ w2.heap.size < w2.heap.size := h
    omega
  · have hs3 := hb3.size
    have hs4 : (w2.alloc (.cells #[.slice none 0 0, .pointer (some ⟨w.heap.size + 1, 0, none⟩), .pointer (some ⟨w1.heap.size + 1, 0, none⟩)] 66)).heap.size = w2.heap.size + 1 := by simp
    rcases hi with hi | hi | hi | hi
    · have hi : w.heap.size ≤ i ∧ i < w1.heap.size := hi
      exact ⟨by omega, by omega⟩
    · have hi : w1.heap.size ≤ i ∧ i < w2.heap.size := hi
      exact ⟨by omega, by omega⟩
    · exact ⟨by omega, by omega⟩
    · simp [Value.ownBlock] at hi
end Go.Proofs.Ytaddhackggbdkaa
