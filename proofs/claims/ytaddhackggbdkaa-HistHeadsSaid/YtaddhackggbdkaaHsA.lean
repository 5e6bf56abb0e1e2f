/- How a model is read in memory and opened; the next state; small answers of the document: they come to an end. Conditions stand in each part's own head. -/
import Derived.Test.YtaddhackggbdkaaOpen
import Derived.Test.YtaddhackggbdkaaProg
import Derived.Test.YtaddhackggbdkaaWWords
import Derived.Lib.Hide
import Derived.Handy
import Derived.Deep.Draws
import Derived.Deep.QuietTactic
import Derived.Deep.LoopGhost
import Derived.Deep.RegionHeld3
/-! What a model among a law's arguments holds, and how it is read: rows of cells, level by level; no condition. -/
namespace Go.Proofs.Ytaddhackggbdkaa
open Go.ChangeShapes Go.WideShapes Go.Deep Go.RowKit
/-- A call came back with a bool; with a number. -/
def RetB (e : Ending) : Prop := ∃ b, e = .returned (.bool b)
def RetI (e : Ending) : Prop := ∃ n, e = .returned (.int .i64 n)
theorem retB (b : Bool) : RetB (.returned (.bool b)) := ⟨b, rfl⟩
theorem retI (n : Int) : RetI (.returned (.int .i64 n)) := ⟨n, rfl⟩
theorem w64 {j n : Nat} (h : j < n) (hn : n ≤ 9223372036854775807) : wrap64 ((j : Int) + 1) = ((j + 1 : Nat) : Int) := by
  unfold wrap64
  omega
theorem maxLen_le : maxLen ≤ 9223372036854775807 := by decide
theorem below_drewN {B : Nat} {w W : World} (h : Below B w W) (n : Nat) : Below B w (W.drewN n) := ⟨h.os, h.tape, h.output, h.size, h.block⟩
/-- Each of a row's elements lies in W, and is as P says. -/
def Row (W : World) (P : List Value → Prop) (sz : Nat) (A : Option Addr) (l c : Nat) : Prop :=
  l ≤ c ∧ c ≤ maxLen ∧ ∀ i, i < l → ∃ ad cs, A = some ad ∧ ad.block < W.heap.size ∧ P cs ∧ ∀ j u, cs[j]? = some u → W.cell? (ad.add (i * sz + j)) = some u
theorem Row.le {W : World} {P : List Value → Prop} {sz : Nat} {A : Option Addr} {l c : Nat} (h : Row W P sz A l c) : l ≤ 9223372036854775807 :=
  Nat.le_trans h.1 (Nat.le_trans h.2.1 maxLen_le)
theorem Row.get {W : World} {P : List Value → Prop} {sz : Nat} {A : Option Addr} {l c i : Nat} (h : Row W P sz A l c) (hi : i < l) :
    ∃ ad cs, A = some ad ∧ P cs ∧ ∀ w, Below W.heap.size W w → ∀ j u, cs[j]? = some u → w.cell? (ad.add (i * sz + j)) = some u := by
  obtain ⟨ad, cs, e, hb, hP, hc⟩ := h.2.2 i hi
  exact ⟨ad, cs, e, hP, fun w hw j u hu => cell_below hw (by rw [add_block]; exact hb) (hc j u hu)⟩
theorem Row.mono {W : World} {P Q : List Value → Prop} {sz : Nat} {A : Option Addr} {l c : Nat} (h : Row W P sz A l c) (hPQ : ∀ cs, P cs → Q cs) : Row W Q sz A l c :=
  ⟨h.1, h.2.1, fun i hi => by
    obtain ⟨ad, cs, e, hb, hP, hc⟩ := h.2.2 i hi
    exact ⟨ad, cs, e, hb, hPQ cs hP, hc⟩⟩
def StrOk (cs : List Value) : Prop := ∃ s, cs = [.string s] ∧ s.size ≤ 9223372036854775807
def FileOk (cs : List Value) : Prop := ∃ s p t, cs = [.string s, .int .i64 p, .int .i64 t] ∧ s.size ≤ 9223372036854775807
def OnOk (cs : List Value) : Prop := ∃ f r m, cs = [.bool f, .int .i64 r, .int .i64 m]
def ValOk (W : World) : Nat → List Value → Prop
  | 0, _ => False
  | n + 1, cs => ∃ k b m s t A l c, cs = [.int .i64 k, .bool b, .int .i64 m, .int .i64 s, .string t, .slice A l c] ∧ t.size ≤ 9223372036854775807 ∧ Row W (ValOk W n) 6 A l c
theorem ValOk.up {W : World} : ∀ {n : Nat} {cs : List Value}, ValOk W n cs → ValOk W (n + 1) cs
  | 0, _, h => h.elim
  | _ + 1, _, h => by
    obtain ⟨k, b, m, s, t, A, l, c, e, ht, hr⟩ := h
    exact ⟨k, b, m, s, t, A, l, c, e, ht, hr.mono fun _ h => ValOk.up h⟩
theorem ValOk.le {W : World} {n m : Nat} (hnm : n ≤ m) {cs : List Value} (h : ValOk W n cs) : ValOk W m cs := by
  induction hnm with
  | refl => exact h
  | step _ ih => exact ValOk.up ih
def AVal (W : World) (cs : List Value) : Prop := ∃ n, ValOk W n cs
def RuleOk (W : World) (cs : List Value) : Prop := ∃ A l c vs, cs = .slice A l c :: vs ∧ Row W StrOk 1 A l c ∧ AVal W vs
def TableOk (W : World) (cs : List Value) : Prop := ∃ h A0 l0 c0 A1 l1 c1 A2 l2 c2 b vs, cs = .string h :: .slice A0 l0 c0 :: .slice A1 l1 c1 :: .slice A2 l2 c2 :: .bool b :: vs ∧
  h.size ≤ 9223372036854775807 ∧ Row W StrOk 1 A0 l0 c0 ∧ Row W (RuleOk W) 7 A1 l1 c1 ∧ Row W (AVal W) 6 A2 l2 c2 ∧ AVal W vs
def SenOk (W : World) (cs : List Value) : Prop := ∃ A l c s t, cs = [.slice A l c, .string s, .int .i64 t] ∧ s.size ≤ 9223372036854775807 ∧ Row W OnOk 3 A l c
def ItemOk (W : World) (cs : List Value) : Prop := ∃ s k p A0 l0 c0 A1 l1 c1 b0 b1 b2, cs = [.string s, .int .i64 k, .int .i64 p, .slice A0 l0 c0, .slice A1 l1 c1, .bool b0, .bool b1, .bool b2] ∧
  s.size ≤ 9223372036854775807 ∧ Row W (SenOk W) 3 A0 l0 c0 ∧ Row W (SenOk W) 3 A1 l1 c1
/-- A model: its items of the file, its tables, its plan. -/
structure Mod where
  A0 : Option Addr
  l0 : Nat
  c0 : Nat
  A1 : Option Addr
  l1 : Nat
  c1 : Nat
  A2 : Option Addr
  l2 : Nat
  c2 : Nat
def Mod.v (m : Mod) : Value := .agg #[.slice m.A0 m.l0 m.c0, .slice m.A1 m.l1 m.c1, .slice m.A2 m.l2 m.c2]
structure ModOk (W : World) (m : Mod) : Prop where
  file : Row W FileOk 3 m.A0 m.l0 m.c0
  tab : Row W (TableOk W) 11 m.A1 m.l1 m.c1
  plan : Row W (ItemOk W) 8 m.A2 m.l2 m.c2
/-! ### How it is read -/
theorem Row.str {W : World} {A : Option Addr} {l c i : Nat} (h : Row W StrOk 1 A l c) (hi : i < l) :
    ∃ ad s, A = some ad ∧ s.size ≤ 9223372036854775807 ∧ ∀ w, Below W.heap.size W w → w.cell? (ad.add i) = some (.string s) := by
  obtain ⟨ad, cs, e, ⟨s, rfl, hs⟩, hc⟩ := h.get hi
  exact ⟨ad, s, e, hs, fun w hw => by have := hc w hw 0 _ rfl; rwa [Nat.mul_one, Nat.add_zero] at this⟩
theorem Row.on {W : World} {A : Option Addr} {l c i : Nat} (h : Row W OnOk 3 A l c) (hi : i < l) :
    ∃ ad f r m, A = some ad ∧ ∀ w, Below W.heap.size W w → w.cell? (ad.add (i * 3)) = some (.bool f) ∧ w.cell? ⟨(ad.add (i * 3)).block, (ad.add (i * 3)).off + 1, none⟩ = some (.int .i64 r) ∧ w.cell? ⟨(ad.add (i * 3)).block, (ad.add (i * 3)).off + 2, none⟩ = some (.int .i64 m) := by
  obtain ⟨ad, cs, e, ⟨f, r, m, rfl⟩, hc⟩ := h.get hi
  exact ⟨ad, f, r, m, e, fun w hw => ⟨hc w hw 0 _ rfl, by rw [← add_fld _ _ 1 (by omega)]; exact hc w hw 1 _ rfl, by rw [← add_fld _ _ 2 (by omega)]; exact hc w hw 2 _ rfl⟩⟩
theorem Row.filei {W : World} {A : Option Addr} {l c i : Nat} (h : Row W FileOk 3 A l c) (hi : i < l) :
    ∃ ad s p t, A = some ad ∧ s.size ≤ 9223372036854775807 ∧ ∀ w, Below W.heap.size W w → w.cell? (ad.add (i * 3)) = some (.string s) ∧ w.cell? ⟨(ad.add (i * 3)).block, (ad.add (i * 3)).off + 1, none⟩ = some (.int .i64 p) ∧ w.cell? ⟨(ad.add (i * 3)).block, (ad.add (i * 3)).off + 2, none⟩ = some (.int .i64 t) := by
  obtain ⟨ad, cs, e, ⟨s, p, t, rfl, hs⟩, hc⟩ := h.get hi
  exact ⟨ad, s, p, t, e, hs, fun w hw => ⟨hc w hw 0 _ rfl, by rw [← add_fld _ _ 1 (by omega)]; exact hc w hw 1 _ rfl, by rw [← add_fld _ _ 2 (by omega)]; exact hc w hw 2 _ rfl⟩⟩
theorem Row.sen {W : World} {A : Option Addr} {l c i : Nat} (h : Row W (SenOk W) 3 A l c) (hi : i < l) :
    ∃ ad A' l' c' s t, A = some ad ∧ s.size ≤ 9223372036854775807 ∧ Row W OnOk 3 A' l' c' ∧ ∀ w, Below W.heap.size W w → w.cell? (ad.add (i * 3)) = some (.slice A' l' c') ∧ w.cell? ⟨(ad.add (i * 3)).block, (ad.add (i * 3)).off + 1, none⟩ = some (.string s) ∧ w.cell? ⟨(ad.add (i * 3)).block, (ad.add (i * 3)).off + 2, none⟩ = some (.int .i64 t) := by
  obtain ⟨ad, cs, e, ⟨A', l', c', s, t, rfl, hs, hr⟩, hc⟩ := h.get hi
  exact ⟨ad, A', l', c', s, t, e, hs, hr, fun w hw => ⟨hc w hw 0 _ rfl, by rw [← add_fld _ _ 1 (by omega)]; exact hc w hw 1 _ rfl, by rw [← add_fld _ _ 2 (by omega)]; exact hc w hw 2 _ rfl⟩⟩
/-- The six cells of a value, from the d-th of an element on. -/
def SixAt (w : World) (ad : Addr) (x : Nat) (k : Int) (b : Bool) (m s : Int) (t : ByteArray) (A : Option Addr) (l c : Nat) : Prop :=
  w.cell? (ad.add x) = some (.int .i64 k) ∧ w.cell? ⟨(ad.add x).block, (ad.add x).off + 1, none⟩ = some (.bool b) ∧ w.cell? ⟨(ad.add x).block, (ad.add x).off + 2, none⟩ = some (.int .i64 m) ∧
  w.cell? ⟨(ad.add x).block, (ad.add x).off + 3, none⟩ = some (.int .i64 s) ∧ w.cell? ⟨(ad.add x).block, (ad.add x).off + 4, none⟩ = some (.string t) ∧ w.cell? ⟨(ad.add x).block, (ad.add x).off + 5, none⟩ = some (.slice A l c)
theorem Row.val {W : World} {n : Nat} {A : Option Addr} {l c i : Nat} (h : Row W (ValOk W n) 6 A l c) (hi : i < l) :
    ∃ ad k b m s t A' l' c', A = some ad ∧ ValOk W n [.int .i64 k, .bool b, .int .i64 m, .int .i64 s, .string t, .slice A' l' c'] ∧ ∀ w, Below W.heap.size W w → SixAt w ad (i * 6) k b m s t A' l' c' := by
  obtain ⟨ad, cs, e, hv, hc⟩ := h.get hi
  have hv' := hv
  cases n with
  | zero => exact hv.elim
  | succ n =>
    obtain ⟨k, b, m, s, t, A', l', c', rfl, ht, hr⟩ := hv
    exact ⟨ad, k, b, m, s, t, A', l', c', e, hv', fun w hw => ⟨hc w hw 0 _ rfl, by rw [← add_fld _ _ 1 (by omega)]; exact hc w hw 1 _ rfl, by rw [← add_fld _ _ 2 (by omega)]; exact hc w hw 2 _ rfl, by rw [← add_fld _ _ 3 (by omega)]; exact hc w hw 3 _ rfl, by rw [← add_fld _ _ 4 (by omega)]; exact hc w hw 4 _ rfl, by rw [← add_fld _ _ 5 (by omega)]; exact hc w hw 5 _ rfl⟩⟩
theorem Row.aval {W : World} {A : Option Addr} {l c i : Nat} (h : Row W (AVal W) 6 A l c) (hi : i < l) :
    ∃ ad n k b m s t A' l' c', A = some ad ∧ ValOk W n [.int .i64 k, .bool b, .int .i64 m, .int .i64 s, .string t, .slice A' l' c'] ∧ ∀ w, Below W.heap.size W w → SixAt w ad (i * 6) k b m s t A' l' c' := by
  obtain ⟨ad, cs, e, ⟨n, hv⟩, hc⟩ := h.get hi
  have hv' := hv
  cases n with
  | zero => exact hv.elim
  | succ n =>
    obtain ⟨k, b, m, s, t, A', l', c', rfl, ht, hr⟩ := hv
    exact ⟨ad, n + 1, k, b, m, s, t, A', l', c', e, hv', fun w hw => ⟨hc w hw 0 _ rfl, by rw [← add_fld _ _ 1 (by omega)]; exact hc w hw 1 _ rfl, by rw [← add_fld _ _ 2 (by omega)]; exact hc w hw 2 _ rfl, by rw [← add_fld _ _ 3 (by omega)]; exact hc w hw 3 _ rfl, by rw [← add_fld _ _ 4 (by omega)]; exact hc w hw 4 _ rfl, by rw [← add_fld _ _ 5 (by omega)]; exact hc w hw 5 _ rfl⟩⟩
/-- A value's cells, laid open. -/
theorem AVal.shape {W : World} {cs : List Value} (h : AVal W cs) : ∃ n k b m s t A l c, cs = [.int .i64 k, .bool b, .int .i64 m, .int .i64 s, .string t, .slice A l c] ∧ ValOk W (n + 1) [.int .i64 k, .bool b, .int .i64 m, .int .i64 s, .string t, .slice A l c] := by
  obtain ⟨n, hv⟩ := h
  cases n with
  | zero => exact hv.elim
  | succ n =>
    have hv' := hv
    obtain ⟨k, b, m, s, t, A, l, c, rfl, ht, hr⟩ := hv
    exact ⟨n, k, b, m, s, t, A, l, c, rfl, hv'⟩
theorem ValOk.list {W : World} {n : Nat} {k : Int} {b : Bool} {m s : Int} {t : ByteArray} {A : Option Addr} {l c : Nat} (h : ValOk W (n + 1) [.int .i64 k, .bool b, .int .i64 m, .int .i64 s, .string t, .slice A l c]) : t.size ≤ 9223372036854775807 ∧ Row W (ValOk W n) 6 A l c := by
  obtain ⟨k', b', m', s', t', A', l', c', e, ht, hr⟩ := h
  injection e with _ e; injection e with _ e; injection e with _ e; injection e with _ e; injection e with e5 e; injection e with e6 _
  injection e5 with e5; injection e6 with e6 e7 e8
  subst e5 e6 e7 e8
  exact ⟨ht, hr⟩
theorem Row.rule {W : World} {A : Option Addr} {l c i : Nat} (h : Row W (RuleOk W) 7 A l c) (hi : i < l) :
    ∃ ad A0 l0 c0 n k b m s t A' l' c', A = some ad ∧ Row W StrOk 1 A0 l0 c0 ∧ ValOk W (n + 1) [.int .i64 k, .bool b, .int .i64 m, .int .i64 s, .string t, .slice A' l' c'] ∧
      ∀ w, Below W.heap.size W w → w.cell? (ad.add (i * 7)) = some (.slice A0 l0 c0) ∧ w.cell? ⟨(ad.add (i * 7)).block, (ad.add (i * 7)).off + 1, none⟩ = some (.int .i64 k) ∧ w.cell? ⟨(ad.add (i * 7)).block, (ad.add (i * 7)).off + 2, none⟩ = some (.bool b) ∧
        w.cell? ⟨(ad.add (i * 7)).block, (ad.add (i * 7)).off + 3, none⟩ = some (.int .i64 m) ∧ w.cell? ⟨(ad.add (i * 7)).block, (ad.add (i * 7)).off + 4, none⟩ = some (.int .i64 s) ∧ w.cell? ⟨(ad.add (i * 7)).block, (ad.add (i * 7)).off + 5, none⟩ = some (.string t) ∧
        w.cell? ⟨(ad.add (i * 7)).block, (ad.add (i * 7)).off + 6, none⟩ = some (.slice A' l' c') := by
  obtain ⟨ad, cs, e, ⟨A0, l0, c0, vs, rfl, hs, hv⟩, hc⟩ := h.get hi
  obtain ⟨n, k, b, m, s, t, A', l', c', rfl, hv'⟩ := hv.shape
  exact ⟨ad, A0, l0, c0, n, k, b, m, s, t, A', l', c', e, hs, hv', fun w hw => ⟨hc w hw 0 _ rfl, by rw [← add_fld _ _ 1 (by omega)]; exact hc w hw 1 _ rfl, by rw [← add_fld _ _ 2 (by omega)]; exact hc w hw 2 _ rfl, by rw [← add_fld _ _ 3 (by omega)]; exact hc w hw 3 _ rfl, by rw [← add_fld _ _ 4 (by omega)]; exact hc w hw 4 _ rfl, by rw [← add_fld _ _ 5 (by omega)]; exact hc w hw 5 _ rfl, by rw [← add_fld _ _ 6 (by omega)]; exact hc w hw 6 _ rfl⟩⟩
/-- A table's eleven values. -/
structure Tab where
  h : ByteArray
  A0 : Option Addr
  l0 : Nat
  c0 : Nat
  A1 : Option Addr
  l1 : Nat
  c1 : Nat
  A2 : Option Addr
  l2 : Nat
  c2 : Nat
  b : Bool
  k : Int
  q : Bool
  m : Int
  s : Int
  t : ByteArray
  A3 : Option Addr
  l3 : Nat
  c3 : Nat
def Tab.cs (x : Tab) : List Value := [.string x.h, .slice x.A0 x.l0 x.c0, .slice x.A1 x.l1 x.c1, .slice x.A2 x.l2 x.c2, .bool x.b, .int .i64 x.k, .bool x.q, .int .i64 x.m, .int .i64 x.s, .string x.t, .slice x.A3 x.l3 x.c3]
structure TabOk (W : World) (x : Tab) : Prop where
  h : x.h.size ≤ 9223372036854775807
  ins : Row W StrOk 1 x.A0 x.l0 x.c0
  rules : Row W (RuleOk W) 7 x.A1 x.l1 x.c1
  order : Row W (AVal W) 6 x.A2 x.l2 x.c2
  els : ∃ n, ValOk W (n + 1) [.int .i64 x.k, .bool x.q, .int .i64 x.m, .int .i64 x.s, .string x.t, .slice x.A3 x.l3 x.c3]
theorem Row.table {W : World} {A : Option Addr} {l c i : Nat} (h : Row W (TableOk W) 11 A l c) (hi : i < l) :
    ∃ ad, ∃ x : Tab, A = some ad ∧ TabOk W x ∧ ∀ w, Below W.heap.size W w → w.cell? (ad.add (i * 11)) = some (.string x.h) ∧ w.cell? ⟨(ad.add (i * 11)).block, (ad.add (i * 11)).off + 1, none⟩ = some (.slice x.A0 x.l0 x.c0) ∧ w.cell? ⟨(ad.add (i * 11)).block, (ad.add (i * 11)).off + 2, none⟩ = some (.slice x.A1 x.l1 x.c1) ∧
      w.cell? ⟨(ad.add (i * 11)).block, (ad.add (i * 11)).off + 3, none⟩ = some (.slice x.A2 x.l2 x.c2) ∧ w.cell? ⟨(ad.add (i * 11)).block, (ad.add (i * 11)).off + 4, none⟩ = some (.bool x.b) ∧ w.cell? ⟨(ad.add (i * 11)).block, (ad.add (i * 11)).off + 5, none⟩ = some (.int .i64 x.k) ∧
      w.cell? ⟨(ad.add (i * 11)).block, (ad.add (i * 11)).off + 6, none⟩ = some (.bool x.q) ∧ w.cell? ⟨(ad.add (i * 11)).block, (ad.add (i * 11)).off + 7, none⟩ = some (.int .i64 x.m) ∧ w.cell? ⟨(ad.add (i * 11)).block, (ad.add (i * 11)).off + 8, none⟩ = some (.int .i64 x.s) ∧
      w.cell? ⟨(ad.add (i * 11)).block, (ad.add (i * 11)).off + 9, none⟩ = some (.string x.t) ∧ w.cell? ⟨(ad.add (i * 11)).block, (ad.add (i * 11)).off + 10, none⟩ = some (.slice x.A3 x.l3 x.c3) := by
  obtain ⟨ad, cs, e, ⟨h, A0, l0, c0, A1, l1, c1, A2, l2, c2, b, vs, rfl, hh, h0, h1, h2, hv⟩, hc⟩ := h.get hi
  obtain ⟨n, k, q, m, s, t, A', l', c', rfl, hv'⟩ := hv.shape
  exact ⟨ad, ⟨h, A0, l0, c0, A1, l1, c1, A2, l2, c2, b, k, q, m, s, t, A', l', c'⟩, e, ⟨hh, h0, h1, h2, n, hv'⟩, fun w hw => ⟨hc w hw 0 _ rfl, by rw [← add_fld _ _ 1 (by omega)]; exact hc w hw 1 _ rfl, by rw [← add_fld _ _ 2 (by omega)]; exact hc w hw 2 _ rfl, by rw [← add_fld _ _ 3 (by omega)]; exact hc w hw 3 _ rfl, by rw [← add_fld _ _ 4 (by omega)]; exact hc w hw 4 _ rfl, by rw [← add_fld _ _ 5 (by omega)]; exact hc w hw 5 _ rfl, by rw [← add_fld _ _ 6 (by omega)]; exact hc w hw 6 _ rfl, by rw [← add_fld _ _ 7 (by omega)]; exact hc w hw 7 _ rfl, by rw [← add_fld _ _ 8 (by omega)]; exact hc w hw 8 _ rfl, by rw [← add_fld _ _ 9 (by omega)]; exact hc w hw 9 _ rfl, by rw [← add_fld _ _ 10 (by omega)]; exact hc w hw 10 _ rfl⟩⟩
/-- An item of a plan. -/
structure Itm where
  s : ByteArray
  k : Int
  p : Int
  A0 : Option Addr
  l0 : Nat
  c0 : Nat
  A1 : Option Addr
  l1 : Nat
  c1 : Nat
  b0 : Bool
  b1 : Bool
  b2 : Bool
  deriving Inhabited
structure ItmOk (W : World) (x : Itm) : Prop where
  s : x.s.size ≤ 9223372036854775807
  entry : Row W (SenOk W) 3 x.A0 x.l0 x.c0
  exit : Row W (SenOk W) 3 x.A1 x.l1 x.c1
theorem Row.item {W : World} {A : Option Addr} {l c i : Nat} (h : Row W (ItemOk W) 8 A l c) (hi : i < l) :
    ∃ ad, ∃ x : Itm, A = some ad ∧ ItmOk W x ∧ ∀ w, Below W.heap.size W w → w.cell? (ad.add (i * 8)) = some (.string x.s) ∧ w.cell? ⟨(ad.add (i * 8)).block, (ad.add (i * 8)).off + 1, none⟩ = some (.int .i64 x.k) ∧ w.cell? ⟨(ad.add (i * 8)).block, (ad.add (i * 8)).off + 2, none⟩ = some (.int .i64 x.p) ∧
      w.cell? ⟨(ad.add (i * 8)).block, (ad.add (i * 8)).off + 3, none⟩ = some (.slice x.A0 x.l0 x.c0) ∧ w.cell? ⟨(ad.add (i * 8)).block, (ad.add (i * 8)).off + 4, none⟩ = some (.slice x.A1 x.l1 x.c1) ∧ w.cell? ⟨(ad.add (i * 8)).block, (ad.add (i * 8)).off + 5, none⟩ = some (.bool x.b0) ∧
      w.cell? ⟨(ad.add (i * 8)).block, (ad.add (i * 8)).off + 6, none⟩ = some (.bool x.b1) ∧ w.cell? ⟨(ad.add (i * 8)).block, (ad.add (i * 8)).off + 7, none⟩ = some (.bool x.b2) := by
  obtain ⟨ad, cs, e, ⟨s, k, p, A0, l0, c0, A1, l1, c1, b0, b1, b2, rfl, hs, h0, h1⟩, hc⟩ := h.get hi
  exact ⟨ad, ⟨s, k, p, A0, l0, c0, A1, l1, c1, b0, b1, b2⟩, e, ⟨hs, h0, h1⟩, fun w hw => ⟨hc w hw 0 _ rfl, by rw [← add_fld _ _ 1 (by omega)]; exact hc w hw 1 _ rfl, by rw [← add_fld _ _ 2 (by omega)]; exact hc w hw 2 _ rfl, by rw [← add_fld _ _ 3 (by omega)]; exact hc w hw 3 _ rfl, by rw [← add_fld _ _ 4 (by omega)]; exact hc w hw 4 _ rfl, by rw [← add_fld _ _ 5 (by omega)]; exact hc w hw 5 _ rfl, by rw [← add_fld _ _ 6 (by omega)]; exact hc w hw 6 _ rfl, by rw [← add_fld _ _ 7 (by omega)]; exact hc w hw 7 _ rfl⟩⟩
end Go.Proofs.Ytaddhackggbdkaa
/-! How a model among a law's arguments is opened, type by type; no condition. -/
namespace Go.Proofs.Ytaddhackggbdkaa
open Go.ChangeShapes Go.WideShapes Go.Deep Go.RowKit
set_option linter.unusedVariables false
set_option maxRecDepth 100000
theorem list_of3 : ∀ {cs : List Value}, cs.length = 3 → ∃ x0 x1 x2, cs = [x0, x1, x2]
  | [x0, x1, x2], _ => ⟨x0, x1, x2, rfl⟩
theorem list_of6 : ∀ {cs : List Value}, cs.length = 6 → ∃ x0 x1 x2 x3 x4 x5, cs = [x0, x1, x2, x3, x4, x5]
  | [x0, x1, x2, x3, x4, x5], _ => ⟨x0, x1, x2, x3, x4, x5, rfl⟩
theorem list_of7 : ∀ {cs : List Value}, cs.length = 7 → ∃ x0 x1 x2 x3 x4 x5 x6, cs = [x0, x1, x2, x3, x4, x5, x6]
  | [x0, x1, x2, x3, x4, x5, x6], _ => ⟨x0, x1, x2, x3, x4, x5, x6, rfl⟩
theorem list_of8 : ∀ {cs : List Value}, cs.length = 8 → ∃ x0 x1 x2 x3 x4 x5 x6 x7, cs = [x0, x1, x2, x3, x4, x5, x6, x7]
  | [x0, x1, x2, x3, x4, x5, x6, x7], _ => ⟨x0, x1, x2, x3, x4, x5, x6, x7, rfl⟩
theorem list_of11 : ∀ {cs : List Value}, cs.length = 11 → ∃ x0 x1 x2 x3 x4 x5 x6 x7 x8 x9 x10, cs = [x0, x1, x2, x3, x4, x5, x6, x7, x8, x9, x10]
  | [x0, x1, x2, x3, x4, x5, x6, x7, x8, x9, x10], _ => ⟨x0, x1, x2, x3, x4, x5, x6, x7, x8, x9, x10, rfl⟩
section
variable {H : Type} {enc : TypeId × Value → H} {w : World} {base : Nat} {spare : Nat → Bool} {held : Bool}
theorem row_open {t e : TypeId} {sz : Nat} {Q : List Value → Prop} (ht : Try.prog.underlying t = some (.slice e)) (hC : Try.prog.cellsOf e = sz) (h0 : 0 < sz) {n : Nat} {cs : List Value} {y : DataW H × List MemPlace}
    (h : DataW.trod enc Try.prog w base spare held n t cs = some y) (hQ : ∀ (k : Nat) (cs : List Value) (y : DataW H × List MemPlace), k < n → DataW.trod enc Try.prog w base spare held k e cs = some y → Q cs) :
    ∃ a len cap, cs = [.slice a len cap] ∧ Row w Q sz a len cap := by
  rcases DataW.trod_slice ht h with ⟨rfl, _⟩ | ⟨a, len, cap, elems, rest, m, rfl, rfl, _, hb, hl, hm, hlen, hel, _, _⟩
  · exact ⟨none, 0, 0, rfl, Nat.le_refl _, by decide, fun i hi => absurd hi (Nat.not_lt_zero _)⟩
  · refine ⟨some a, len, cap, rfl, hl, hm, fun i hi => ?_⟩
    have h1 := hel i hi
    rw [List.getElem?_eq_getElem (by omega), hC] at h1
    obtain ⟨cs', hc, ht'⟩ := Option.bind_eq_some_iff.1 h1
    obtain ⟨_, hcl, hat⟩ := World.cells?_some hc
    have key : ∀ j u, cs'[j]? = some u → w.cell? (a.add (i * sz + j)) = some u := fun j u hj => by
      have hjl := (List.getElem?_eq_some_iff.1 hj).1
      rw [← Go.Deep.add_add, hat j (by omega)]
      exact hj
    refine ⟨a, cs', rfl, ?_, hQ m cs' _ (Nat.lt_succ_self _) ht', key⟩
    have := lt_of_cell (key 0 _ (List.getElem?_eq_getElem (by omega)))
    rwa [add_block] at this
theorem fld_of {fs : Array Field} {m : Nat} {cs : List Value} {xs : List (DataW H × List MemPlace)} (hg : ∀ (i : Nat) (f : Field), fs[i]? = some f → DataW.trod enc Try.prog w base spare held m f.type ((cs.drop f.offset).take (Try.prog.cellsOf f.type)) = xs[i]?)
    (hxl : xs.length = fs.size) (i : Nat) (f : Field) (hf : fs[i]? = some f) {ft : TypeId} {o k : Nat} (e1 : f.type = ft) (e2 : f.offset = o) (e3 : Try.prog.cellsOf ft = k) {l : List Value} (hl : (cs.drop o).take k = l) :
    ∃ y, DataW.trod enc Try.prog w base spare held m ft l = some y := by
  have h1 := hg i f hf
  rw [e1, e2, e3, hl] at h1
  have hi : i < fs.size := (Array.getElem?_eq_some_iff.1 hf).1
  rw [List.getElem?_eq_getElem (by omega)] at h1
  exact ⟨_, h1⟩
theorem size_le {s : ByteArray} (h : s.size ≤ maxLen) : s.size ≤ 9223372036854775807 := Nat.le_trans h maxLen_le
theorem str_open {n : Nat} {cs : List Value} {y : DataW H × List MemPlace} (h : DataW.trod enc Try.prog w base spare held n 9 cs = some y) : StrOk cs := by
  obtain ⟨s, e, _, hs⟩ := DataW.trod_string Try.underlying9 h
  exact ⟨s, e, size_le hs⟩
theorem file_open {n : Nat} {cs : List Value} {y : DataW H × List MemPlace} (h : DataW.trod enc Try.prog w base spare held n 78 cs = some y) : FileOk cs := by
  obtain ⟨xs, m, _, _, hl, hxl, hg⟩ := DataW.trod_struct Try.underlying78 h
  have hC : Try.prog.cellsOf 78 = 3 := by kernel_rfl
  rw [hC] at hl
  obtain ⟨x0, x1, x2, rfl⟩ := list_of3 hl
  obtain ⟨y0, t0⟩ := fld_of hg hxl 0 _ rfl (ft := 9) (o := 0) (k := 1) rfl rfl (by kernel_rfl) (l := [x0]) rfl
  obtain ⟨s, e0, _, hs⟩ := DataW.trod_string Try.underlying9 t0
  simp only [List.cons.injEq, and_true] at e0
  subst e0
  obtain ⟨y1, t1⟩ := fld_of hg hxl 1 _ rfl (ft := 3) (o := 1) (k := 1) rfl rfl (by kernel_rfl) (l := [x1]) rfl
  obtain ⟨a, e1, _, _⟩ := DataW.trod_int Try.underlying3 t1
  simp only [List.cons.injEq, and_true] at e1
  subst e1
  obtain ⟨y2, t2⟩ := fld_of hg hxl 2 _ rfl (ft := 3) (o := 2) (k := 1) rfl rfl (by kernel_rfl) (l := [x2]) rfl
  obtain ⟨b, e2, _, _⟩ := DataW.trod_int Try.underlying3 t2
  simp only [List.cons.injEq, and_true] at e2
  subst e2
  exact ⟨s, a, b, rfl, size_le hs⟩
theorem on_open {n : Nat} {cs : List Value} {y : DataW H × List MemPlace} (h : DataW.trod enc Try.prog w base spare held n 131 cs = some y) : OnOk cs := by
  obtain ⟨xs, m, _, _, hl, hxl, hg⟩ := DataW.trod_struct Try.underlying131 h
  have hC : Try.prog.cellsOf 131 = 3 := by kernel_rfl
  rw [hC] at hl
  obtain ⟨x0, x1, x2, rfl⟩ := list_of3 hl
  obtain ⟨y0, t0⟩ := fld_of hg hxl 0 _ rfl (ft := 4) (o := 0) (k := 1) rfl rfl (by kernel_rfl) (l := [x0]) rfl
  obtain ⟨f, e0, _⟩ := DataW.trod_bool Try.underlying4 t0
  simp only [List.cons.injEq, and_true] at e0
  subst e0
  obtain ⟨y1, t1⟩ := fld_of hg hxl 1 _ rfl (ft := 3) (o := 1) (k := 1) rfl rfl (by kernel_rfl) (l := [x1]) rfl
  obtain ⟨a, e1, _, _⟩ := DataW.trod_int Try.underlying3 t1
  simp only [List.cons.injEq, and_true] at e1
  subst e1
  obtain ⟨y2, t2⟩ := fld_of hg hxl 2 _ rfl (ft := 3) (o := 2) (k := 1) rfl rfl (by kernel_rfl) (l := [x2]) rfl
  obtain ⟨b, e2, _, _⟩ := DataW.trod_int Try.underlying3 t2
  simp only [List.cons.injEq, and_true] at e2
  subst e2
  exact ⟨f, a, b, rfl⟩
theorem sen_open {n : Nat} {cs : List Value} {y : DataW H × List MemPlace} (h : DataW.trod enc Try.prog w base spare held n 105 cs = some y) : SenOk w cs := by
  obtain ⟨xs, m, _, _, hl, hxl, hg⟩ := DataW.trod_struct Try.underlying105 h
  have hC : Try.prog.cellsOf 105 = 3 := by kernel_rfl
  rw [hC] at hl
  obtain ⟨x0, x1, x2, rfl⟩ := list_of3 hl
  obtain ⟨y0, t0⟩ := fld_of hg hxl 0 _ rfl (ft := 103) (o := 0) (k := 1) rfl rfl (by kernel_rfl) (l := [x0]) rfl
  obtain ⟨A, l, c, e0, hA⟩ := row_open Try.underlying103 (by kernel_rfl : Try.prog.cellsOf 131 = 3) (by decide) t0 (fun _ _ _ _ h => on_open h)
  simp only [List.cons.injEq, and_true] at e0
  subst e0
  obtain ⟨y1, t1⟩ := fld_of hg hxl 1 _ rfl (ft := 9) (o := 1) (k := 1) rfl rfl (by kernel_rfl) (l := [x1]) rfl
  obtain ⟨s, e1, _, hs⟩ := DataW.trod_string Try.underlying9 t1
  simp only [List.cons.injEq, and_true] at e1
  subst e1
  obtain ⟨y2, t2⟩ := fld_of hg hxl 2 _ rfl (ft := 3) (o := 2) (k := 1) rfl rfl (by kernel_rfl) (l := [x2]) rfl
  obtain ⟨b, e2, _, _⟩ := DataW.trod_int Try.underlying3 t2
  simp only [List.cons.injEq, and_true] at e2
  subst e2
  exact ⟨A, l, c, s, b, rfl, size_le hs, hA⟩
theorem item_open {n : Nat} {cs : List Value} {y : DataW H × List MemPlace} (h : DataW.trod enc Try.prog w base spare held n 92 cs = some y) : ItemOk w cs := by
  obtain ⟨xs, m, _, _, hl, hxl, hg⟩ := DataW.trod_struct Try.underlying92 h
  have hC : Try.prog.cellsOf 92 = 8 := by kernel_rfl
  rw [hC] at hl
  obtain ⟨x0, x1, x2, x3, x4, x5, x6, x7, rfl⟩ := list_of8 hl
  obtain ⟨y0, t0⟩ := fld_of hg hxl 0 _ rfl (ft := 9) (o := 0) (k := 1) rfl rfl (by kernel_rfl) (l := [x0]) rfl
  obtain ⟨s, e0, _, hs⟩ := DataW.trod_string Try.underlying9 t0
  simp only [List.cons.injEq, and_true] at e0
  subst e0
  obtain ⟨y1, t1⟩ := fld_of hg hxl 1 _ rfl (ft := 3) (o := 1) (k := 1) rfl rfl (by kernel_rfl) (l := [x1]) rfl
  obtain ⟨k, e1, _, _⟩ := DataW.trod_int Try.underlying3 t1
  simp only [List.cons.injEq, and_true] at e1
  subst e1
  obtain ⟨y2, t2⟩ := fld_of hg hxl 2 _ rfl (ft := 3) (o := 2) (k := 1) rfl rfl (by kernel_rfl) (l := [x2]) rfl
  obtain ⟨q, e2, _, _⟩ := DataW.trod_int Try.underlying3 t2
  simp only [List.cons.injEq, and_true] at e2
  subst e2
  obtain ⟨y3, t3⟩ := fld_of hg hxl 3 _ rfl (ft := 90) (o := 3) (k := 1) rfl rfl (by kernel_rfl) (l := [x3]) rfl
  obtain ⟨A0, l0, c0, e3, hA0⟩ := row_open Try.underlying90 (by kernel_rfl : Try.prog.cellsOf 105 = 3) (by decide) t3 (fun _ _ _ _ h => sen_open h)
  simp only [List.cons.injEq, and_true] at e3
  subst e3
  obtain ⟨y4, t4⟩ := fld_of hg hxl 4 _ rfl (ft := 90) (o := 4) (k := 1) rfl rfl (by kernel_rfl) (l := [x4]) rfl
  obtain ⟨A1, l1, c1, e4, hA1⟩ := row_open Try.underlying90 (by kernel_rfl : Try.prog.cellsOf 105 = 3) (by decide) t4 (fun _ _ _ _ h => sen_open h)
  simp only [List.cons.injEq, and_true] at e4
  subst e4
  obtain ⟨y5, t5⟩ := fld_of hg hxl 5 _ rfl (ft := 4) (o := 5) (k := 1) rfl rfl (by kernel_rfl) (l := [x5]) rfl
  obtain ⟨b0, e5, _⟩ := DataW.trod_bool Try.underlying4 t5
  simp only [List.cons.injEq, and_true] at e5
  subst e5
  obtain ⟨y6, t6⟩ := fld_of hg hxl 6 _ rfl (ft := 4) (o := 6) (k := 1) rfl rfl (by kernel_rfl) (l := [x6]) rfl
  obtain ⟨b1, e6, _⟩ := DataW.trod_bool Try.underlying4 t6
  simp only [List.cons.injEq, and_true] at e6
  subst e6
  obtain ⟨y7, t7⟩ := fld_of hg hxl 7 _ rfl (ft := 4) (o := 7) (k := 1) rfl rfl (by kernel_rfl) (l := [x7]) rfl
  obtain ⟨b2, e7, _⟩ := DataW.trod_bool Try.underlying4 t7
  simp only [List.cons.injEq, and_true] at e7
  subst e7
  exact ⟨s, k, q, A0, l0, c0, A1, l1, c1, b0, b1, b2, rfl, size_le hs, hA0, hA1⟩
theorem val_open : ∀ (n : Nat) (cs : List Value) (y : DataW H × List MemPlace), DataW.trod enc Try.prog w base spare held n 84 cs = some y → ValOk w n cs := by
  intro n
  induction n using Nat.strongRecOn with
  | _ n ih =>
    intro cs y h
    obtain ⟨xs, m, hn, _, hl, hxl, hg⟩ := DataW.trod_struct Try.underlying84 h
    have hC : Try.prog.cellsOf 84 = 6 := by kernel_rfl
    rw [hC] at hl
    obtain ⟨x0, x1, x2, x3, x4, x5, rfl⟩ := list_of6 hl
    obtain ⟨y0, t0⟩ := fld_of hg hxl 0 _ rfl (ft := 3) (o := 0) (k := 1) rfl rfl (by kernel_rfl) (l := [x0]) rfl
    obtain ⟨k, e0, _, _⟩ := DataW.trod_int Try.underlying3 t0
    simp only [List.cons.injEq, and_true] at e0
    subst e0
    obtain ⟨y1, t1⟩ := fld_of hg hxl 1 _ rfl (ft := 4) (o := 1) (k := 1) rfl rfl (by kernel_rfl) (l := [x1]) rfl
    obtain ⟨b, e1, _⟩ := DataW.trod_bool Try.underlying4 t1
    simp only [List.cons.injEq, and_true] at e1
    subst e1
    obtain ⟨y2, t2⟩ := fld_of hg hxl 2 _ rfl (ft := 82) (o := 2) (k := 2) rfl rfl (by kernel_rfl) (l := [x2, x3]) rfl
    obtain ⟨y3, t3⟩ := fld_of hg hxl 3 _ rfl (ft := 9) (o := 4) (k := 1) rfl rfl (by kernel_rfl) (l := [x4]) rfl
    obtain ⟨s, e3, _, hs⟩ := DataW.trod_string Try.underlying9 t3
    simp only [List.cons.injEq, and_true] at e3
    subst e3
    obtain ⟨y4, t4⟩ := fld_of hg hxl 4 _ rfl (ft := 80) (o := 5) (k := 1) rfl rfl (by kernel_rfl) (l := [x5]) rfl
    obtain ⟨A, l, c, e4, hA⟩ := row_open Try.underlying80 (by kernel_rfl : Try.prog.cellsOf 84 = 6) (by decide) t4 (Q := ValOk w m) (fun k cs y hk h => ValOk.le (Nat.le_of_lt hk) (ih k (by omega) cs y h))
    simp only [List.cons.injEq, and_true] at e4
    subst e4
    obtain ⟨zxs, m2, _, _, zhl, zhxl, zhg⟩ := DataW.trod_struct Try.underlying82 t2
    have zhC : Try.prog.cellsOf 82 = 2 := by kernel_rfl
    rw [zhC] at zhl
    obtain ⟨zy0, zt0⟩ := fld_of zhg zhxl 0 _ rfl (ft := 3) (o := 0) (k := 1) rfl rfl (by kernel_rfl) (l := [x2]) rfl
    obtain ⟨dm, ze0, _, _⟩ := DataW.trod_int Try.underlying3 zt0
    simp only [List.cons.injEq, and_true] at ze0
    subst ze0
    obtain ⟨zy1, zt1⟩ := fld_of zhg zhxl 1 _ rfl (ft := 3) (o := 1) (k := 1) rfl rfl (by kernel_rfl) (l := [x3]) rfl
    obtain ⟨ds, ze1, _, _⟩ := DataW.trod_int Try.underlying3 zt1
    simp only [List.cons.injEq, and_true] at ze1
    subst ze1
    subst hn
    exact ⟨k, b, dm, ds, s, A, l, c, rfl, size_le hs, hA⟩
theorem aval_open {n : Nat} {cs : List Value} {y : DataW H × List MemPlace} (h : DataW.trod enc Try.prog w base spare held n 84 cs = some y) : AVal w cs := ⟨n, val_open n cs y h⟩
theorem rule_open {n : Nat} {cs : List Value} {y : DataW H × List MemPlace} (h : DataW.trod enc Try.prog w base spare held n 89 cs = some y) : RuleOk w cs := by
  obtain ⟨xs, m, _, _, hl, hxl, hg⟩ := DataW.trod_struct Try.underlying89 h
  have hC : Try.prog.cellsOf 89 = 7 := by kernel_rfl
  rw [hC] at hl
  obtain ⟨x0, x1, x2, x3, x4, x5, x6, rfl⟩ := list_of7 hl
  obtain ⟨y0, t0⟩ := fld_of hg hxl 0 _ rfl (ft := 43) (o := 0) (k := 1) rfl rfl (by kernel_rfl) (l := [x0]) rfl
  obtain ⟨A, l, c, e0, hA⟩ := row_open Try.underlying43 (by kernel_rfl : Try.prog.cellsOf 9 = 1) (by decide) t0 (fun _ _ _ _ h => str_open h)
  simp only [List.cons.injEq, and_true] at e0
  subst e0
  obtain ⟨y1, t1⟩ := fld_of hg hxl 1 _ rfl (ft := 84) (o := 1) (k := 6) rfl rfl (by kernel_rfl) (l := [x1, x2, x3, x4, x5, x6]) rfl
  exact ⟨A, l, c, _, rfl, hA, aval_open t1⟩
theorem table_open {n : Nat} {cs : List Value} {y : DataW H × List MemPlace} (h : DataW.trod enc Try.prog w base spare held n 86 cs = some y) : TableOk w cs := by
  obtain ⟨xs, m, _, _, hl, hxl, hg⟩ := DataW.trod_struct Try.underlying86 h
  have hC : Try.prog.cellsOf 86 = 11 := by kernel_rfl
  rw [hC] at hl
  obtain ⟨x0, x1, x2, x3, x4, x5, x6, x7, x8, x9, x10, rfl⟩ := list_of11 hl
  obtain ⟨y0, t0⟩ := fld_of hg hxl 0 _ rfl (ft := 9) (o := 0) (k := 1) rfl rfl (by kernel_rfl) (l := [x0]) rfl
  obtain ⟨s, e0, _, hs⟩ := DataW.trod_string Try.underlying9 t0
  simp only [List.cons.injEq, and_true] at e0
  subst e0
  obtain ⟨y1, t1⟩ := fld_of hg hxl 1 _ rfl (ft := 43) (o := 1) (k := 1) rfl rfl (by kernel_rfl) (l := [x1]) rfl
  obtain ⟨A0, l0, c0, e1, hA0⟩ := row_open Try.underlying43 (by kernel_rfl : Try.prog.cellsOf 9 = 1) (by decide) t1 (fun _ _ _ _ h => str_open h)
  simp only [List.cons.injEq, and_true] at e1
  subst e1
  obtain ⟨y2, t2⟩ := fld_of hg hxl 2 _ rfl (ft := 79) (o := 2) (k := 1) rfl rfl (by kernel_rfl) (l := [x2]) rfl
  obtain ⟨A1, l1, c1, e2, hA1⟩ := row_open Try.underlying79 (by kernel_rfl : Try.prog.cellsOf 89 = 7) (by decide) t2 (fun _ _ _ _ h => rule_open h)
  simp only [List.cons.injEq, and_true] at e2
  subst e2
  obtain ⟨y3, t3⟩ := fld_of hg hxl 3 _ rfl (ft := 80) (o := 3) (k := 1) rfl rfl (by kernel_rfl) (l := [x3]) rfl
  obtain ⟨A2, l2, c2, e3, hA2⟩ := row_open Try.underlying80 (by kernel_rfl : Try.prog.cellsOf 84 = 6) (by decide) t3 (fun _ _ _ _ h => aval_open h)
  simp only [List.cons.injEq, and_true] at e3
  subst e3
  obtain ⟨y4, t4⟩ := fld_of hg hxl 4 _ rfl (ft := 4) (o := 4) (k := 1) rfl rfl (by kernel_rfl) (l := [x4]) rfl
  obtain ⟨b, e4, _⟩ := DataW.trod_bool Try.underlying4 t4
  simp only [List.cons.injEq, and_true] at e4
  subst e4
  obtain ⟨y5, t5⟩ := fld_of hg hxl 5 _ rfl (ft := 84) (o := 5) (k := 6) rfl rfl (by kernel_rfl) (l := [x5, x6, x7, x8, x9, x10]) rfl
  exact ⟨s, A0, l0, c0, A1, l1, c1, A2, l2, c2, b, _, rfl, size_le hs, hA0, hA1, hA2, aval_open t5⟩
theorem open_model {v : Value} {d : DataW H} {ps : List MemPlace} {r : Reach} {b0 : Nat} (hk : Value.okWide Try.prog w r b0 53 v) (hT : DataW.Trod enc Try.prog w base spare held 53 v d ps) : ∃ M : Mod, v = M.v ∧ ModOk w M := by
  obtain ⟨av, rfl, hav⟩ := okWide_struct Try.underlying53 hk
  obtain ⟨fuel, h⟩ := hT
  obtain ⟨cs, ecs⟩ : ∃ cs, av.toList = cs := ⟨_, rfl⟩
  have h : DataW.trod enc Try.prog w base spare held fuel 53 cs = some (d, ps) := by rw [← ecs]; exact h
  obtain ⟨xs, m, _, _, hl, hxl, hg⟩ := DataW.trod_struct Try.underlying53 h
  have hC : Try.prog.cellsOf 53 = 3 := by kernel_rfl
  rw [hC] at hl
  obtain ⟨x0, x1, x2, rfl⟩ := list_of3 hl
  obtain ⟨y0, t0⟩ := fld_of hg hxl 0 _ rfl (ft := 49) (o := 0) (k := 1) rfl rfl (by kernel_rfl) (l := [x0]) rfl
  obtain ⟨A0, l0, c0, e0, hA0⟩ := row_open Try.underlying49 (by kernel_rfl : Try.prog.cellsOf 78 = 3) (by decide) t0 (fun _ _ _ _ h => file_open h)
  simp only [List.cons.injEq, and_true] at e0
  subst e0
  obtain ⟨y1, t1⟩ := fld_of hg hxl 1 _ rfl (ft := 50) (o := 1) (k := 1) rfl rfl (by kernel_rfl) (l := [x1]) rfl
  obtain ⟨A1, l1, c1, e1, hA1⟩ := row_open Try.underlying50 (by kernel_rfl : Try.prog.cellsOf 86 = 11) (by decide) t1 (fun _ _ _ _ h => table_open h)
  simp only [List.cons.injEq, and_true] at e1
  subst e1
  obtain ⟨y2, t2⟩ := fld_of hg hxl 2 _ rfl (ft := 51) (o := 2) (k := 1) rfl rfl (by kernel_rfl) (l := [x2]) rfl
  obtain ⟨A2, l2, c2, e2, hA2⟩ := row_open Try.underlying51 (by kernel_rfl : Try.prog.cellsOf 92 = 8) (by decide) t2 (fun _ _ _ _ h => item_open h)
  simp only [List.cons.injEq, and_true] at e2
  subst e2
  refine ⟨⟨A0, l0, c0, A1, l1, c1, A2, l2, c2⟩, ?_, hA0, hA1, hA2⟩
  obtain ⟨av⟩ := av
  have ecs : av = _ := ecs
  rw [ecs]
  rfl
end
end Go.Proofs.Ytaddhackggbdkaa
/-! The state behind a move: the program's and the document's answers are one plain function; no condition. -/
namespace Go.Proofs.Ytaddhackggbdkaa
open Go.RowKit
set_option maxRecDepth 100000
def nxw (s m : Int) : Int :=
  if m = 1 then (if s = 0 then 1 else 0) else if m = 2 then (if s = 1 then 2 else 0) else if m = 3 then (if s = 1 ∨ s = 2 then 3 else 0)
  else if m = 4 then (if s = 3 then 5 else 0) else if m = 5 then (if s = 1 ∨ s = 2 ∨ s = 3 ∨ s = 4 then 6 else 0) else if m = 6 then (if s = 3 then 7 else 0)
  else if m = 8 then (if s = 3 then 4 else 0) else if m = 9 then (if s = 4 then 3 else 0) else 0
def nxp (s m : Int) : Int :=
  if m = 1 then (if s = 0 then 1 else 0) else if m = 5 then (if s = 1 ∨ s = 4 then 6 else 0) else if m = 7 then (if s = 1 then 5 else 0)
  else if m = 8 then (if s = 1 then 4 else 0) else if m = 9 then (if s = 4 then 1 else 0) else 0
def nx (k s m : Int) : Int := if k = 1 ∨ k = 2 then nxw s m else if k = 3 ∨ k = 4 then nxp s m else 0
theorem isw57 (k : Int) (w : World) : Calls Try.prog 57 #[.int .i64 k] w fun e w' => e = .returned (.bool (decide (k = 1 ∨ k = 2))) ∧ w' = w := by
  rcases (by omega : k = 1 ∨ k = 2 ∨ (k ≠ 1 ∧ k ≠ 2)) with rfl | rfl | ⟨h1, h2⟩
  all_goals (go_enter Try.func57, Try.ntmps57; go_wp2_with fail)
  all_goals (go_ret; refine ⟨?_, rfl⟩; first | rfl | (simp [h1, h2]; done))
theorem isp59 (k : Int) (w : World) : Calls Try.prog 59 #[.int .i64 k] w fun e w' => e = .returned (.bool (decide (k = 3 ∨ k = 4))) ∧ w' = w := by
  rcases (by omega : k = 3 ∨ k = 4 ∨ (k ≠ 3 ∧ k ≠ 4)) with rfl | rfl | ⟨h1, h2⟩
  all_goals (go_enter Try.func59, Try.ntmps59; go_wp2_with fail)
  all_goals (go_ret; refine ⟨?_, rfl⟩; first | rfl | (simp [h1, h2]; done))
set_option maxHeartbeats 4000000 in
theorem work58 (s m : Int) (w : World) : Calls Try.prog 58 #[.int .i64 s, .int .i64 m] w fun e w' => e = .returned (.int .i64 (nxw s m)) ∧ w' = w := by
  obtain ⟨r, hr⟩ : ∃ r, nxw s m = r := ⟨_, rfl⟩
  rw [hr]
  have HR := Lib.hid hr
  clear hr
  go_enter Try.func58, Try.ntmps58
  go_wp2_with fail
  all_goals (go_ret; refine ⟨?_, rfl⟩; rw [← HR.out]; congr 2; unfold nxw; first | (simp_all; done) | (repeat' split) <;> omega | skip)
set_option maxHeartbeats 4000000 in
theorem point60 (s m : Int) (w : World) : Calls Try.prog 60 #[.int .i64 s, .int .i64 m] w fun e w' => e = .returned (.int .i64 (nxp s m)) ∧ w' = w := by
  obtain ⟨r, hr⟩ : ∃ r, nxp s m = r := ⟨_, rfl⟩
  rw [hr]
  have HR := Lib.hid hr
  clear hr
  go_enter Try.func60, Try.ntmps60
  go_wp2_with fail
  all_goals (go_ret; refine ⟨?_, rfl⟩; rw [← HR.out]; congr 2; unfold nxp; first | (simp_all; done) | (repeat' split) <;> omega | skip)
set_option maxHeartbeats 4000000 in
theorem next47 (k s m : Int) (w : World) : Calls Try.prog 47 #[.int .i64 k, .int .i64 s, .int .i64 m] w fun e w' => e = .returned (.tuple #[.int .i64 (nx k s m), .bool (decide (nx k s m ≠ 0))]) ∧ w' = w := by
  obtain ⟨q, hq⟩ : ∃ q, nx k s m = q := ⟨_, rfl⟩
  rw [hq]
  have HQ := Lib.hid hq
  clear hq
  go_enter Try.func47, Try.ntmps47
  go_wp2_with fail
  refine (isw57 k w).mono ?_
  rintro e w2 ⟨rfl, rfl⟩
  by_cases h1 : k = 1 ∨ k = 2
  · have hq : nxw s m = q := by rw [← HQ.out]; unfold nx; rw [if_pos h1]
    have HD : Hid (decide (k = 1 ∨ k = 2) = true) := Lib.hid (by simp [h1])
    rw [HD.out]
    clear h1
    go_wp2_with fail
    refine (work58 s m _).mono ?_
    rintro e w3 ⟨rfl, rfl⟩
    rw [hq]
    by_cases h0 : q = 0
    · subst h0
      go_wp2_with fail
      go_ret2
      exact ⟨rfl, rfl⟩
    · go_wp2_with fail
      go_ret2
      refine ⟨?_, rfl⟩
      simp [h0]
  · have HD : Hid (decide (k = 1 ∨ k = 2) = false) := Lib.hid (by simp [h1])
    have H1 := Lib.hid h1
    rw [HD.out]
    clear h1
    go_wp2_with fail
    refine (isp59 k _).mono ?_
    rintro e w3 ⟨rfl, rfl⟩
    by_cases h2 : k = 3 ∨ k = 4
    · have hq : nxp s m = q := by rw [← HQ.out]; unfold nx; rw [if_neg H1.out, if_pos h2]
      have HD2 : Hid (decide (k = 3 ∨ k = 4) = true) := Lib.hid (by simp [h2])
      rw [HD2.out]
      clear h2
      go_wp2_with fail
      refine (point60 s m _).mono ?_
      rintro e w4 ⟨rfl, rfl⟩
      rw [hq]
      by_cases h0 : q = 0
      · subst h0
        go_wp2_with fail
        go_ret2
        exact ⟨rfl, rfl⟩
      · go_wp2_with fail
        go_ret2
        refine ⟨?_, rfl⟩
        simp [h0]
    · have HD2 : Hid (decide (k = 3 ∨ k = 4) = false) := Lib.hid (by simp [h2])
      have hq : q = 0 := by rw [← HQ.out]; unfold nx; rw [if_neg H1.out, if_neg h2]
      subst hq
      rw [HD2.out]
      clear h2
      go_wp2_with fail
      go_ret2
      exact ⟨rfl, rfl⟩
set_option maxHeartbeats 8000000 in
theorem next48 (k s m : Int) (w : World) : Calls Try.prog 48 #[.int .i64 k, .int .i64 s, .int .i64 m] w fun e w' => e = .returned (.tuple #[.int .i64 (nx k s m), .bool (decide (nx k s m ≠ 0))]) ∧ w' = w := by
  obtain ⟨q, hq⟩ : ∃ q, nx k s m = q := ⟨_, rfl⟩
  rw [hq]
  have HQ := Lib.hid hq
  clear hq
  rcases (by omega : (k ≠ 1 ∧ k ≠ 2 ∧ k ≠ 3 ∧ k ≠ 4) ∨ k = 1 ∨ k = 2 ∨ k = 3 ∨ k = 4) with ⟨h1, h2, h3, h4⟩ | rfl | rfl | rfl | rfl
  · have h0 : q = 0 := by
      rw [← HQ.out]
      unfold nx
      rw [if_neg (by omega), if_neg (by omega)]
    subst h0
    have e1 : (k == 1) = false := by simpa using h1
    have e2 : (k == 2) = false := by simpa using h2
    have e3 : (k == 3) = false := by simpa using h3
    have e4 : (k == 4) = false := by simpa using h4
    clear h1 h2 h3 h4
    go_enter Try.func48, Try.ntmps48
    go_wp2_with fail
    all_goals (go_ret2; exact ⟨rfl, rfl⟩)
  all_goals (go_enter Try.func48, Try.ntmps48; go_wp2_with fail)
  all_goals go_ret2
  all_goals refine ⟨?_, rfl⟩
  all_goals have hq := HQ.out
  all_goals clear HQ
  all_goals refine congrArg (fun z => Ending.returned (Value.tuple #[.int .i64 z, .bool (decide (z ≠ 0))])) ?_
  all_goals rw [← hq]
  all_goals clear hq
  all_goals try simp only [beq_iff_eq, beq_eq_false_iff_ne, ne_eq] at *
  all_goals unfold nx
  all_goals first | rw [if_pos (by decide)] | rw [if_neg (by decide), if_pos (by decide)]
  all_goals first | (unfold nxw; repeat' split) | (unfold nxp; repeat' split)
  all_goals first | rfl | omega
end Go.Proofs.Ytaddhackggbdkaa
/-! The document's small answers on decimals, bytes, names and values come to an end; condition: what they are handed lies in the world. -/
namespace Go.Proofs.Ytaddhackggbdkaa
open Go.RowKit
set_option maxRecDepth 100000
theorem boxed {w wr : World} {cs : Array Value} {t : TypeId} (h : Below (w.heap.size + 1) (w.alloc (.cells cs t)) wr) : wr.heap[w.heap.size]? = some (.cells cs t (0, 0)) :=
  (h.block _ (by omega)).trans (heap_alloc_new w _)
theorem below_box {w wr : World} {cs : Array Value} {t : TypeId} (h : Below (w.heap.size + 1) (w.alloc (.cells cs t)) wr) : Below w.heap.size w wr :=
  ((Below.refl w.heap.size w).alloc (Nat.le_refl _) _).trans (h.mono (by omega))
theorem letter_any (c : Int) (w : World) : Calls Try.prog 77 #[.int .u8 c] w fun e w' => RetB e ∧ w' = w := by
  go_enter Try.func77, Try.ntmps77
  go_wp2_with fail
  all_goals (go_ret; exact ⟨retB _, rfl⟩)
theorem digit_any (c : Int) (w : World) : Calls Try.prog 78 #[.int .u8 c] w fun e w' => RetB e ∧ w' = w := by
  go_enter Try.func78, Try.ntmps78
  go_wp2_with fail
  all_goals (go_ret; exact ⟨retB _, rfl⟩)
theorem dec_is (m s : Int) (w : World) : Calls Try.prog 67 #[.agg #[.int .i64 m, .int .i64 s]] w fun e w' => RetB e ∧ Below w.heap.size w w' := by
  go_enter Try.func67, Try.ntmps67
  go_wp2_with fail
  all_goals (go_ret; exact ⟨retB _, by go_grown⟩)
theorem order_any (a b : Int) (w : World) : Calls Try.prog 71 #[.int .i64 a, .int .i64 b] w fun e w' => RetI e ∧ w' = w := by
  go_enter Try.func71, Try.ntmps71
  go_wp2_with fail
  all_goals (go_ret; exact ⟨retI _, rfl⟩)
theorem one_any (b : Bool) (w : World) : Calls Try.prog 72 #[.bool b] w fun e w' => RetI e ∧ w' = w := by
  go_enter Try.func72, Try.ntmps72
  cases b
  all_goals (go_wp2_with fail; go_ret; exact ⟨retI _, rfl⟩)
theorem on_any (M : Mod) (f : Bool) (r m : Int) (w : World) : Calls Try.prog 66 #[M.v, .agg #[.bool f, .int .i64 r, .int .i64 m]] w fun e w' => RetB e ∧ Below w.heap.size w w' := by
  unfold Mod.v
  go_enter Try.func66, Try.ntmps66
  go_wp2_with fail
  all_goals (go_ret; exact ⟨retB _, by go_grown⟩)
theorem name_any (s : ByteArray) (w : World) (hs : s.size ≤ 9223372036854775807) : Calls Try.prog 50 #[.string s] w fun e w' => RetB e ∧ w' = w := by
  go_enter Try.func50, Try.ntmps50
  go_wp2_with fail
  go_loopg [3] s.size (fun g i wr => ∃ j : Nat, j ≤ s.size ∧ g + j = s.size ∧ i = .int .i64 j ∧ wr = w)
  case atStart => exact ⟨0, Nat.zero_le _, rfl, rfl, rfl⟩
  case round =>
    obtain ⟨j, hj, hg, rfl, rfl⟩ := hrel
    go_wp2_with fail
    all_goals first
      | (go_ret; exact ⟨retB _, rfl⟩)
      | (go_roundg (s.size - (j + 1))
         case rel => exact ⟨j + 1, by omega, by omega, by first | rfl | rw [w64 (by omega) hs], rfl⟩
         case measure => omega)
theorem text_any (s : ByteArray) (w : World) (hs : s.size ≤ 9223372036854775807) : Calls Try.prog 68 #[.string s] w fun e w' => RetB e ∧ w' = w := by
  go_enter Try.func68, Try.ntmps68
  go_wp2_with fail
  go_loopg [3] s.size (fun g i wr => ∃ j : Nat, j ≤ s.size ∧ g + j = s.size ∧ i = .int .i64 j ∧ wr = w)
  case atStart => exact ⟨0, Nat.zero_le _, rfl, rfl, rfl⟩
  case round =>
    obtain ⟨j, hj, hg, rfl, rfl⟩ := hrel
    go_wp2_with fail
    all_goals first
      | (go_ret; exact ⟨retB _, rfl⟩)
      | (go_roundg (s.size - (j + 1))
         case rel => exact ⟨j + 1, by omega, by omega, by first | rfl | rw [w64 (by omega) hs], rfl⟩
         case measure => omega)
theorem word_any (s : ByteArray) (w : World) : Calls Try.prog 51 #[.string s] w fun e w' => RetB e ∧ Below w.heap.size w w' := by
  go_enter Try.func51, Try.ntmps51
  go_wp2_with fail
  go_rounds 10
  all_goals (go_ret; exact ⟨retB _, by go_grown⟩)
theorem much_any (W : World) : ∀ (n : Nat) (k : Int) (b : Bool) (m s : Int) (t : ByteArray) (A : Option Addr) (l c : Nat) (_ : ValOk W (n + 1) [.int .i64 k, .bool b, .int .i64 m, .int .i64 s, .string t, .slice A l c]) (w : World) (_ : Below W.heap.size W w),
    Calls Try.prog 42 #[.agg #[.int .i64 k, .bool b, .int .i64 m, .int .i64 s, .string t, .slice A l c]] w fun e w' => RetI e ∧ Below w.heap.size w w' := by
  intro n
  induction n with
  | zero =>
    intro k b m s t A l c hv w hw
    have hl : l = 0 := by
      rcases Nat.eq_zero_or_pos l with h | h
      · exact h
      · obtain ⟨_, _, _, _, hP, _⟩ := hv.list.2.2.2 0 h
        exact hP.elim
    subst hl
    go_enter Try.func42, Try.ntmps42
    go_wp2_with fail
    go_rounds 1
    all_goals (go_ret; exact ⟨retI _, by go_grown⟩)
  | succ n ih =>
    intro k b m s t A l c hv w hw
    have HR := Lib.hid hv.list.2
    have HW := Lib.hid hw
    have HI := Lib.hid ih
    have hle := hv.list.2.le
    clear hv hw ih
    go_enter Try.func42, Try.ntmps42
    go_wp2_with fail
    go_loopg [3, 4] l (fun g x i wr => ∃ j : Nat, j ≤ l ∧ g + j = l ∧ (∃ y, x = .int .i64 y) ∧ i = .int .i64 j ∧ Below (w.heap.size + 1) (w.alloc (.cells #[.int .i64 k, .bool b, .int .i64 m, .int .i64 s, .string t, .slice A l c] 84)) wr)
    case atStart => exact ⟨0, Nat.zero_le _, rfl, ⟨_, rfl⟩, rfl, by simpa using Below.refl _ _⟩
    case round =>
      obtain ⟨j, hj, hg, ⟨y, rfl⟩, rfl, hb⟩ := hrel
      have c3 := cell_of (boxed hb) 3
      have c5 := cell_of (boxed hb) 5
      have HB := Lib.hid hb
      clear hb
      by_cases hlt : j < l
      · obtain ⟨ad, k', b', m', s', t', A', l', c', rfl, hv', hc⟩ := HR.out.val hlt
        obtain ⟨d0, d1, d2, d3, d4, d5⟩ := hc wr (HW.out.trans ((below_box HB.out).mono HW.out.size))
        have HC := Lib.hid (HI.out k' b' m' s' t' A' l' c' hv' wr (HW.out.trans ((below_box HB.out).mono HW.out.size)))
        clear hc hv'
        go_wp2_with fail
        all_goals first
        | (refine HC.out.mono ?_
           rintro e w2 ⟨⟨z, rfl⟩, hb2⟩
           have HB2 := Lib.hid (HB.out.trans (hb2.mono (by simpa using HB.out.size)))
           clear hb2
           go_wp2_with fail
           go_roundg (l - (j + 1))
           case rel => exact ⟨j + 1, by omega, by omega, ⟨_, rfl⟩, by first | rfl | rw [w64 (by omega) hle], HB2.out⟩
           case measure => omega)
        | (go_ret; exact ⟨retI _, below_box HB.out⟩)
      · go_wp2_with fail
        all_goals (go_ret; exact ⟨retI _, below_box HB.out⟩)
end Go.Proofs.Ytaddhackggbdkaa
/-! Powers, decimals and values compared, sentries counted: the document's answers come to an end; condition: what they are handed lies in the world. -/
namespace Go.Proofs.Ytaddhackggbdkaa
open Go.RowKit
set_option maxRecDepth 100000
def pow10 : Nat → Int
  | 0 => 1
  | k + 1 => wrap64 (pow10 k * 10)
theorem power_is (n : Int) (hn : n ≤ 9223372036854775807) (w : World) : Calls Try.prog 83 #[.int .i64 n] w fun e w' => e = .returned (.int .i64 (pow10 n.toNat)) ∧ w' = w := by
  go_enter Try.func83, Try.ntmps83
  go_wp2_with fail
  go_loopg [3, 4] n.toNat (fun g x i wr => ∃ j : Nat, j ≤ n.toNat ∧ g + j = n.toNat ∧ x = .int .i64 (pow10 j) ∧ i = .int .i64 j ∧ wr = w)
  case atStart => exact ⟨0, Nat.zero_le _, rfl, rfl, rfl, rfl⟩
  case round =>
    obtain ⟨j, hj, hg, rfl, rfl, rfl⟩ := hrel
    by_cases hlt : (j : Int) < n
    · go_wp2_with fail
      go_roundg (n.toNat - (j + 1))
      case rel => exact ⟨j + 1, by omega, by omega, by first | rfl | (simp [pow10]; done), by first | rfl | rw [w64 (n := n.toNat) (by omega) (by omega)], rfl⟩
      case measure => omega
    · have he : j = n.toNat := by omega
      subst he
      go_wp2_with fail
      go_ret
      exact ⟨rfl, rfl⟩
def ordF (a b : Int) : Int := if a < b then -1 else if b < a then 1 else 0
theorem order_is (a b : Int) (w : World) : Calls Try.prog 71 #[.int .i64 a, .int .i64 b] w fun e w' => e = .returned (.int .i64 (ordF a b)) ∧ w' = w := by
  obtain ⟨r, hr⟩ : ∃ r, ordF a b = r := ⟨_, rfl⟩
  rw [hr]
  unfold ordF at hr
  go_enter Try.func71, Try.ntmps71
  go_wp2_with fail
  all_goals (go_ret; refine ⟨congrArg (fun z => Ending.returned (Value.int .i64 z)) ?_, rfl⟩; repeat' split at hr) <;> omega
theorem one_is (b : Bool) (w : World) : Calls Try.prog 72 #[.bool b] w fun e w' => e = .returned (.int .i64 (if b then 1 else 0)) ∧ w' = w := by
  cases b
  all_goals (go_enter Try.func72, Try.ntmps72; go_wp2_with fail; go_ret; exact ⟨rfl, rfl⟩)
theorem dec_cmp (m s m' s' : Int) (w : World) : Calls Try.prog 73 #[.agg #[.int .i64 m, .int .i64 s], .agg #[.int .i64 m', .int .i64 s']] w fun e w' => RetI e ∧ Below w.heap.size w w' := by
  go_enter Try.func73, Try.ntmps73
  go_wp2_with fail
  go_quiet ((go_at_call 83; exact Calls.quiet_of_same (power_is _ (by unfold wrap64; omega) _)))
  have hb := below_drewN (((Below.refl w.heap.size w).alloc (Nat.le_refl _) (.cells #[.int .i64 m, .int .i64 s] 82)).alloc (by simp) (.cells #[.int .i64 m', .int .i64 s'] 82)) nq
  generalize World.drewN _ _ = w3 at hb ⊢
  go_wp2_with fail
  all_goals (go_ret; exact ⟨retI _, hb⟩)
theorem guards_any (W : World) (A : Option Addr) (l c : Nat) (h : Row W (SenOk W) 3 A l c) (w : World) (hw : Below W.heap.size W w) : Calls Try.prog 43 #[.slice A l c] w fun e w' => RetI e ∧ Below w.heap.size w w' := by
  have HR := Lib.hid h
  have HW := Lib.hid hw
  have hle := h.le
  clear h hw
  go_enter Try.func43, Try.ntmps43
  go_wp2_with fail
  go_loopg [3, 4] l (fun g x i wr => ∃ j : Nat, j ≤ l ∧ g + j = l ∧ (∃ y, x = .int .i64 y) ∧ i = .int .i64 j ∧ Below w.heap.size w wr)
  case atStart => exact ⟨0, Nat.zero_le _, rfl, ⟨_, rfl⟩, rfl, Below.refl _ _⟩
  case round =>
    obtain ⟨j, hj, hg, ⟨y, rfl⟩, rfl, hb⟩ := hrel
    have HB := Lib.hid hb
    clear hb
    by_cases hlt : j < l
    · obtain ⟨ad, A', l', c', s', t', rfl, hs, hr', hc⟩ := HR.out.sen hlt
      obtain ⟨d0, d1, d2⟩ := hc wr (HW.out.trans (HB.out.mono HW.out.size))
      clear hr' hc
      go_wp2_with fail
      all_goals first
      | (go_ret; exact ⟨retI _, HB.out⟩)
      | (go_quiet (fail)
         go_wp2_with fail
         go_roundg (l - (j + 1))
         case rel => exact ⟨j + 1, by omega, by omega, ⟨_, rfl⟩, by first | rfl | rw [w64 (by omega) hle], below_drewN HB.out _⟩
         case measure => omega)
    · go_wp2_with fail
      all_goals (go_ret; exact ⟨retI _, HB.out⟩)
end Go.Proofs.Ytaddhackggbdkaa
