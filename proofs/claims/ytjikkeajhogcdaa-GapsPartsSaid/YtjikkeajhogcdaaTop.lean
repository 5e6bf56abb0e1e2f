/- gaps.Hole, and what all the laws look at beside it (known), walked; conditions: boxes and whole lie in the world, all have the same sides. -/
import Derived.Test.YtjikkeajhogcdaaHole
namespace Go.Proofs.Ytjikkeajhogcdaa
open Go.RowKit Go.Proofs.YtjikkeajhogcdaaW.PrintWords Go.Proofs.YtjikkeajhogcdaaW.PrintLast Go.Proofs.YtjikkeajhogcdaaW.PrintMore PGapsTells
/-- What Hole answers. -/
def HAns (w w' : World) (o : Option (List Int)) (v : Value) (ok : Bool) : Prop := match o with
  | some q => ok = true ∧ w'.ownsRow w.heap.size 3 1 v q.length (zs q)
  | none => ok = false ∧ v = .slice none 0 0
theorem pt_nil (w : World) : Pt w none 0 [] := ⟨0, World.ownsRow_nil _ _ _ _⟩
set_option maxHeartbeats 1000000 in
theorem Hole_calls (l : List S25) (lo hi : List Int) (hB : Boxes l lo hi) (A : Option Addr) (c : Nat) (A0 : Option Addr) (c0 : Nat) (A1 : Option Addr) (c1 : Nat) (w : World)
    (hl : Kd.C k25 w A l.length l) (h0 : Kd.C (Kd.int .i64) w A0 lo.length lo) (h1 : Kd.C (Kd.int .i64) w A1 hi.length hi) :
    Calls Try.prog 7 #[.slice A l.length c, .agg #[.slice A0 lo.length c0, .slice A1 hi.length c1]] w fun e w' => ∃ v ok, e = .returned (.tuple #[v, .bool ok]) ∧ HAns w w' (holeF l lo hi lo.length []) v ok ∧ Below w.heap.size w w' := by
  obtain ⟨W1, hW1⟩ : ∃ W1, w.alloc (.cells #[.slice A0 lo.length c0, .slice A1 hi.length c1] 25) = W1 := ⟨_, rfl⟩
  have hbW : Below w.heap.size w W1 := by rw [← hW1]; exact (Below.refl _ _).alloc (Nat.le_refl _) _
  have k0 : W1.cell? ⟨w.heap.size, 0, none⟩ = some (.slice A0 lo.length c0) := by rw [← hW1]; exact cell_of (heap_alloc_new w _) 0
  have k1 : W1.cell? ⟨w.heap.size, 1, none⟩ = some (.slice A1 hi.length c1) := by rw [← hW1]; exact cell_of (heap_alloc_new w _) 1
  have hc := hole_calls l lo hi hB A c A0 c0 A1 c1 lo.length [] none 0 W1 (Kd.C_below hl hbW) (Kd.C_below h0 hbW) (Kd.C_below h1 hbW) (by simp) (pt_nil _)
  have HC := Lib.hid hc
  have HBW := Lib.hid hbW
  clear hl h0 h1 hbW hc
  go_enter Try.func7, Try.ntmps7
  go_wp2_with fail
  refine HC.out.mono ?_
  rintro e w2 ⟨v, ok, rfl, hans, hb⟩
  have H2 := Lib.hid (HBW.out.trans (hb.mono HBW.out.size))
  clear hb k0 k1
  cases hres : holeF l lo hi lo.length [] with
  | some q =>
    rw [hres] at hans
    obtain ⟨rfl, ho⟩ := hans
    have HO := Lib.hid (own_base ho HBW.out.size)
    have HRES := Lib.hid hres
    clear ho hres
    go_wp2_with fail
    go_ret2
    refine ⟨_, true, rfl, ?_, H2.out⟩
    unfold HAns
    rw [HRES.out]
    exact ⟨rfl, HO.out⟩
  | none =>
    rw [hres] at hans
    have hok : ok = false := hans
    subst hok
    have HRES := Lib.hid hres
    clear hans hres
    go_wp2_with fail
    go_ret2
    refine ⟨_, false, rfl, ?_, H2.out⟩
    unfold HAns
    rw [HRES.out]
    exact ⟨rfl, rfl⟩
end Go.Proofs.Ytjikkeajhogcdaa
