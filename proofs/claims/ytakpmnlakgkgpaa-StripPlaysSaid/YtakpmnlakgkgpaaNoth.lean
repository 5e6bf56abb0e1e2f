/- StripOfNothing, walked: it answers true whatever the bytes; condition: the bytes lie in the world. -/
import Derived.Test.YtakpmnlakgkgpaaKnown
import Derived.Deep.RegionWith
namespace Go.Proofs.Ytakpmnlakgkgpaa
open Go.RowKit
/-- The bytes that cells hold. -/
def byl (z : Nat → Int) (n : Nat) : List UInt8 := (List.range n).map fun i => UInt8.ofNat (z i).toNat
theorem byl_length (z : Nat → Int) (n : Nat) : (byl z n).length = n := by simp [byl]
theorem u8_of {x : Int} (h : (Lit.int .u8 x).wf = true) : ((UInt8.ofNat x.toNat).toNat : Int) = x := by
  have h2 : 0 ≤ x ∧ x ≤ 255 := by
    simpa [Lit.wf, IntKind.min, IntKind.max, IntKind.signed, IntKind.bits] using h
  simp
  omega
theorem byl_get {z : Nat → Int} {n : Nat} {j : Nat} {u : Value} (h : ∀ i, i < n → (Lit.int .u8 (z i)).wf = true) (hj : (bys (byl z n))[j]? = some u) : j < n ∧ u = .int .u8 (z j) := by
  have hjn : j < n := by
    have := (List.getElem?_eq_some_iff.1 hj).1
    rwa [bys_length, byl_length] at this
  refine ⟨hjn, ?_⟩
  have : (bys (byl z n))[j]? = some (.int .u8 (z j)) := by
    simp only [bys, byl, List.map_map, List.getElem?_map, List.getElem?_range hjn, Option.map_some, Function.comp]
    rw [u8_of (h j hjn)]
  rw [this] at hj
  exact (Option.some.inj hj).symm
/-- The bytes among a law's arguments, as a source. -/
theorem byl_src {w : World} {a : Option Addr} {n : Nat} {z : Nat → Int} (h0 : 0 < n) (g : ∀ i, i < n → (∃ ad, a = some ad ∧ ad.block < w.heap.size ∧ w.cell? (ad.add i) = some (.int .u8 (z i))) ∧ (Lit.int .u8 (z i)).wf = true) :
    ∃ ad, a = some ad ∧ ad.block < w.heap.size ∧ ∀ j u, (bys (byl z n))[j]? = some u → w.cell? (ad.add j) = some u := by
  obtain ⟨⟨ad, ha, hb, -⟩, -⟩ := g 0 h0
  refine ⟨ad, ha, hb, fun j u hj => ?_⟩
  obtain ⟨hjn, rfl⟩ := byl_get (fun i hi => (g i hi).2) hj
  obtain ⟨⟨ad', ha', -, hc⟩, -⟩ := g j hjn
  rw [ha] at ha'
  cases ha'
  exact hc
theorem str_src {w w' : World} {ad : Addr} {n c : Nat} {l : List UInt8} (hn : l.length = n) (hb : ad.block < w.heap.size) (h : ∀ j u, (bys l)[j]? = some u → w.cell? (ad.add j) = some u) (hk : Below w.heap.size w w') : (convert 26 9 (.slice (some ad) n c)).run Try.prog w' = .ok (.string ⟨l.toArray⟩) w' := by
  subst hn
  refine run_convert_bytes_back w' 26 9 5 _ c l Try.underlying26 Try.underlying5 Try.underlying9 (fun j hj => ?_)
  exact cell_below hk (by rw [add_block]; exact hb) (h j _ (by simp [bys, hj]))
def n1 (l : List UInt8) : St := ⟨1000, l, 0, false, -1⟩
theorem n0_eq : St.new 1000 = n1 [] := rfl
theorem n1_eq (l : List UInt8) (h : l.length ≤ 300) : (n1 []).write l = (n1 l, 0) := by
  simp [St.write, St.live, St.tick, n1, show ¬ 1000 < l.length by omega]
theorem noth_early (a : Option Addr) (len cap : Nat) (w : World) (h : len < 1 ∨ 300 < len) :
    Calls Try.prog 8 #[.slice a len cap] w fun e w' => e = .returned (.bool true) ∧ Below w.heap.size w w' := by
  rcases (show len < 1 ∨ (¬ len < 1 ∧ 300 < len) by omega) with h1 | ⟨h1, h2⟩
  all_goals
    clear h
    go_enter Try.func8, Try.ntmps8
    go_wp2_with fail
    go_ret
    exact ⟨rfl, Below.refl _ _⟩
theorem n1_L (l : List UInt8) : (n1 l).L = l := rfl
theorem own_first {w : World} {B n c : Nat} {x : Option Addr} {l : List UInt8} (h : w.ownsRow B 5 1 (.slice x n c) n (bys l)) (h1 : 1 ≤ l.length) : ∃ g, x = some ⟨g, 0, none⟩ ∧ B ≤ g ∧ ∃ cur, w.heap[g]? = some (.cells cur 5 (0, 0)) ∧ ∃ u, cur[0]? = some (.int .u8 u) := by
  have hn := h.1
  rw [bys_length] at hn
  rcases h.2 with ⟨hv, h0⟩ | ⟨g, cap, cur, hv, hb, hh, e1, e2, e3, e4⟩
  · omega
  · injection hv with e _ _
    refine ⟨g, e, hb, cur, hh, (l[0]'(by omega)).toNat, ?_⟩
    have : (cur.toList.take (n * 1))[0]? = (bys l)[0]? := by simpa using congrArg (fun t : List Value => t[0]?) e4
    rw [List.getElem?_take_of_lt (by omega)] at this
    simpa [bys, List.getElem?_eq_getElem (show 0 < l.length by omega)] using this
set_option maxRecDepth 100000 in
set_option maxHeartbeats 2000000 in
theorem noth_late (ad : Addr) (cap : Nat) (l : List UInt8) (w : World) (h1 : 1 ≤ l.length) (h2 : l.length ≤ 300) (hb : ad.block < w.heap.size) (hs : ∀ j u, (bys l)[j]? = some u → w.cell? (ad.add j) = some u) :
    Calls Try.prog 8 #[.slice (some ad) l.length cap] w fun e w' => e = .returned (.bool true) ∧ Below w.heap.size w w' := by
  have Hs := Lib.hid hs
  clear hs
  go_enter Try.func8, Try.ntmps8
  go_wp2_with fail
  refine (fuse_nil 3 _).mono ?_
  rintro e w0 ⟨rfl, rfl⟩
  go_wp2_with fail
  refine (has_new w 1000 _ (Below.refl _ _)).mono ?_
  rintro e w1 ⟨q, rfl, h1', hb1⟩
  rw [n0_eq] at h1'
  have H1 := Lib.hid h1'
  have B1 := Lib.hid hb1
  clear h1' hb1
  go_wp2_with fail
  have hw := has_write H1.out (some ad) cap l (.inr ⟨ad, rfl, fun j u hj => cell_below B1.out (by rw [add_block]; exact hb) (Hs.out j u hj)⟩) (fun ad' e _ => by cases e; exact hb) (fun e => by cases e) (by omega)
  rw [n1_eq l (by omega)] at hw
  refine hw.mono ?_
  rintro e w2 ⟨rfl, h2'⟩
  have H2 : Hid (Has w w2 q (n1 l)) := Lib.hid h2'
  clear h2' hw
  go_wp2_with fail
  refine (has_read H2.out).mono ?_
  rintro e w3 ⟨x, c, rfl, ho, h3, hb3⟩
  have H3 := Lib.hid h3
  have B3 := Lib.hid hb3
  clear h3 hb3
  have hstr : (convert 26 9 (.slice x l.length c)).run Try.prog w3 = .ok (.string ⟨l.toArray⟩) w3 := str_of ho
  have hstp : (convert 26 9 (.slice (some ad) l.length cap)).run Try.prog w3 = .ok (.string ⟨l.toArray⟩) w3 := str_src (c := cap) rfl hb Hs.out H3.out.bel
  obtain ⟨g, hx, hg, cur, hh, u0, h0⟩ := own_first (l := l) ho h1
  subst hx
  have h0c : w3.cell? ⟨g, 0, none⟩ = some (.int .u8 u0) := by rw [cell_of hh]; exact h0
  have h0f := free_of hh 0
  have H2' := Lib.hid H2
  clear ho hh h0
  simp only [n1_L]
  go_wp2_with fail
  have H4 : Hid (Has w (w3.setCell ⟨g, 0, none⟩ (.int .u8 (bits .xor .u8 u0 1))) q (n1 l)) := Lib.hid (H2.out.below (B3.out.setCell hg _))
  clear hstr hstp h0c h0f H2' H2 H3 H1 B1 B3
  generalize w3.setCell ⟨g, 0, none⟩ (.int .u8 (bits .xor .u8 u0 1)) = w4 at *
  have hst0 : (convert 26 9 (.slice (some ad) l.length cap)).run Try.prog w4.drew = .ok (.string ⟨l.toArray⟩) w4.drew := str_src (c := cap) rfl hb Hs.out (H4.out.drewN 1).bel
  have hrd : Calls Try.prog 11 #[.pointer (some ⟨q, 0, none⟩)] w4.drew _ := has_read (H4.out.drewN 1)
  simp only [n1_L] at hrd
  go_region_with
    (first
      | (go_at_call_of 11 (Value.pointer (some ⟨q, 0, none⟩)); refine hrd.mono ?_; rintro e w5 ⟨x, c5, rfl, ho, h5, -⟩; have H5 := Lib.hid h5; clear h5; have hstr : (convert 26 9 (.slice x l.length c5)).run Try.prog w5 = .ok (.string ⟨l.toArray⟩) w5 := str_of ho; have hstp : (convert 26 9 (.slice (some ad) l.length cap)).run Try.prog w5 = .ok (.string ⟨l.toArray⟩) w5 := str_src (c := cap) rfl hb Hs.out H5.out.bel; clear ho hst0 hrd)
      | (go_at_call 10; refine (write_nil _ _).mono ?_; rintro e w6 ⟨rfl, rfl⟩)
      | (go_at_call 13; refine (sync_nil _).mono ?_; rintro e w6 ⟨rfl, rfl⟩)
      | (go_at_call 14; refine (cut_nil _ _).mono ?_; rintro e w6 ⟨rfl, rfl⟩)
      | (go_at_call_of 11 (Value.pointer none); refine (read_nil _).mono ?_; rintro e w6 ⟨rfl, rfl⟩)
      | (go_at_call 15; refine (safe_nil _).mono ?_; rintro e w6 ⟨rfl, rfl⟩)
      | (go_at_call 23; refine (crash_nil _ _).mono ?_; rintro e w6 ⟨rfl, rfl⟩)
      | (go_at_call 12; refine (known_true _).mono ?_; rintro e w7 ⟨rfl, hb7⟩; have H7 := Lib.hid (H5.out.below hb7); clear hb7))
  all_goals
    go_wp2_with fail
    go_ret
    exact ⟨rfl, H7.out.bel⟩
theorem noth_walk (a : Option Addr) (len cap : Nat) (z : Nat → Int) (w : World) (g : ∀ i, i < len → (∃ ad, a = some ad ∧ ad.block < w.heap.size ∧ w.cell? (ad.add i) = some (.int .u8 (z i))) ∧ (Lit.int .u8 (z i)).wf = true) (_ : len * 1 ≤ 140737488351232) :
    Calls Try.prog 8 #[.slice a len cap] w fun e w' => e = .returned (.bool true) ∧ Below w.heap.size w w' := by
  by_cases h : len < 1 ∨ 300 < len
  · exact noth_early a len cap w h
  · obtain ⟨ad, rfl, hb, hs⟩ := byl_src (by omega) g
    have := noth_late ad cap (byl z len) w (by rw [byl_length]; omega) (by rw [byl_length]; omega) hb hs
    rwa [byl_length] at this
end Go.Proofs.Ytakpmnlakgkgpaa
