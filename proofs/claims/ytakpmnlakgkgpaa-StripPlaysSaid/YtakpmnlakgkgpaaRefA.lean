/- The answer's strip, walked: whether it lives, New, Sync, Cut, Fuse; conditions: the strip lies in the world, its bytes in a row of its own. -/
import Derived.Test.YtakpmnlakgkgpaaFuses
namespace Go.Proofs.Ytakpmnlakgkgpaa
open Go.RowKit
/-- The answer's strip S lies in block x; v is the value of its bytes. -/
def XAt (w : World) (N x : Nat) (v : Value) (S : St) : Prop :=
  w.heap[x]? = some (.cells #[v, .int .i64 (S.safe : Int), .int .i64 (S.room : Int), .int .i64 S.fuse, .bool S.dead] 43 (0, 0)) ∧ w.ownsRow N 5 1 v S.L.length (bys S.L)
theorem XAt.ne {w : World} {N x : Nat} {v : Value} {S : St} (h : XAt w N x v S) : ∀ g, v.ownBlock = some g → g ≠ x := fun g hg => by
  obtain ⟨_, cur, hh⟩ := own_info h.2 hg
  exact tag_ne hh h.1 (by decide)
theorem XAt.lt {w : World} {N x : Nat} {v : Value} {S : St} (h : XAt w N x v S) : x < w.heap.size := (Array.getElem?_eq_some_iff.1 h.1).1
theorem XAt.set {w : World} {N x : Nat} {v : Value} {S T : St} (h : XAt w N x v S) (i : Nat) (u : Value) (hL : T.L = S.L)
    (hc : (#[v, .int .i64 (S.safe : Int), .int .i64 (S.room : Int), .int .i64 S.fuse, .bool S.dead] : Array Value).setIfInBounds i u = #[v, .int .i64 (T.safe : Int), .int .i64 (T.room : Int), .int .i64 T.fuse, .bool T.dead]) :
    XAt (w.setCell ⟨x, i, none⟩ u) N x v T := by
  refine ⟨by rw [blk_set h.1 i u, hc], ?_⟩
  rw [hL]
  exact own_stay h.2 fun g hg => set_other _ _ _ _ (h.ne g hg)
theorem XAt.cells {w : World} {N x : Nat} {v : Value} {S : St} (h : XAt w N x v S) : w.cell? ⟨x, 0, none⟩ = some v ∧ w.cell? ⟨x, 1, none⟩ = some (.int .i64 (S.safe : Int)) ∧ w.cell? ⟨x, 2, none⟩ = some (.int .i64 (S.room : Int)) ∧ w.cell? ⟨x, 3, none⟩ = some (.int .i64 S.fuse) ∧ w.cell? ⟨x, 4, none⟩ = some (.bool S.dead) :=
  ⟨cell_of h.1 0, cell_of h.1 1, cell_of h.1 2, cell_of h.1 3, cell_of h.1 4⟩
theorem XAt.free {w : World} {N x : Nat} {v : Value} {S : St} (h : XAt w N x v S) (i : Nat) : w.frozen? ⟨x, i, none⟩ = false := free_of h.1 i
theorem XAt.drewN {w : World} {N x : Nat} {v : Value} {S : St} (h : XAt w N x v S) (n : Nat) : XAt (w.drewN n) N x v S := h
def St.rtick (S : St) : St := if S.fuse = 0 then { S with dead := true } else if 0 < S.fuse then { S with fuse := S.fuse - 1 } else S
theorem rtick_room (S : St) : S.rtick.room = S.room := by unfold St.rtick; split <;> (try split) <;> rfl
theorem rtick_L (S : St) : S.rtick.L = S.L := by unfold St.rtick; split <;> (try split) <;> rfl
theorem rtick_safe (S : St) : S.rtick.safe = S.safe := by unfold St.rtick; split <;> (try split) <;> rfl
theorem rtick_fit {S : St} (h : S.Fit) : S.rtick.Fit := by
  obtain ⟨h1, h2, h3, h4, h5⟩ := h
  unfold St.rtick
  split
  · exact ⟨h1, h2, h3, h4, h5⟩
  · split
    · refine ⟨h1, h2, h3, ?_, ?_⟩ <;> simp only <;> omega
    · exact ⟨h1, h2, h3, h4, h5⟩
def St.rwrite (S : St) (p : List UInt8) : St × Int := if S.live = false then (S.rtick, 11) else if S.room < S.L.length + p.length then (S.rtick, 8) else ({ S.rtick with L := S.L ++ p }, 0)
def St.rsync (S : St) : St × Int := if S.live = false then (S.rtick, 11) else ({ S.rtick with safe := S.L.length }, 0)
def St.rcut (S : St) (n : Int) : St × Int := if S.live = false then (S.rtick, 11) else if n < 0 ∨ (S.L.length : Int) < n then (S.rtick, 1) else ({ S.rtick with L := S.L.take n.toNat, safe := min S.safe n.toNat }, 0)
/-- alive: it says so, and one act is counted. -/
theorem alive_calls (N x : Nat) (v : Value) (S : St) (w : World) (h : XAt w N x v S) (hf : S.Fit) :
    Calls Try.prog 27 #[.pointer (some ⟨x, 0, none⟩)] w fun e w' => e = .returned (.bool S.live) ∧ XAt w' N x v S.rtick ∧ Step w w' x v v := by
  obtain ⟨c0, c1, c2, c3, c4⟩ := h.cells
  have hlo := hf.lo
  have hhi := hf.hi
  have f3 := h.free 3
  have f4 := h.free 4
  by_cases hz : S.fuse = 0
  · have HT : Hid (S.rtick = { S with dead := true } ∧ S.live = false) := Lib.hid (by simp [St.rtick, St.live, hz])
    have h2 : XAt (w.setCell ⟨x, 4, none⟩ (.bool true)) N x v { S with dead := true } := h.set 4 _ rfl rfl
    have c4' := h2.cells.2.2.2.2
    have HS := Lib.hid h2
    rw [hz] at c3
    clear hz c0 c1 c2 f3 h2 h hlo hhi
    go_enter Try.func27, Try.ntmps27
    go_wp2
    go_ret
    rw [HT.out.2, HT.out.1]
    exact ⟨rfl, HS.out, (Step.refl _ _ _).set _ _⟩
  · by_cases hp : 0 < S.fuse
    · have HT : Hid (S.rtick = { S with fuse := S.fuse - 1 } ∧ S.live = !S.dead) := Lib.hid (by simp [St.rtick, St.live, hz, hp])
      have h2 : XAt (w.setCell ⟨x, 3, none⟩ (.int .i64 (S.fuse - 1))) N x v { S with fuse := S.fuse - 1 } := h.set 3 _ rfl rfl
      have c4' : (w.setCell ⟨x, 3, none⟩ (.int .i64 (S.fuse - 1))).cell? ⟨x, 4, none⟩ = some (.bool S.dead) := h2.cells.2.2.2.2
      have HS := Lib.hid h2
      clear h2 h
      rw [HT.out.2, HT.out.1]
      clear HT
      obtain ⟨f, hfz⟩ : ∃ f, S.fuse = f := ⟨_, rfl⟩
      rw [hfz] at c3 hz hlo hhi hp c4' HS
      rw [hfz]
      clear c0 c1 c2 hfz f4
      go_enter Try.func27, Try.ntmps27
      go_wp2
      go_ret
      exact ⟨rfl, HS.out, (Step.refl _ _ _).set _ _⟩
    · have HT : Hid (S.rtick = S ∧ S.live = !S.dead) := Lib.hid (by simp [St.rtick, St.live, hz, hp])
      have HS := Lib.hid h
      clear h
      rw [HT.out.2, HT.out.1]
      clear HT
      obtain ⟨f, hfz⟩ : ∃ f, S.fuse = f := ⟨_, rfl⟩
      rw [hfz] at c3 hz hlo hhi hp
      clear c0 c1 c2 hfz f4 f3
      go_enter Try.func27, Try.ntmps27
      go_wp2
      go_ret
      exact ⟨rfl, HS.out, Step.refl _ _ _⟩
theorem rfuse_calls (N x : Nat) (v : Value) (S : St) (n : Int) (w : World) (h : XAt w N x v S) : Calls Try.prog 22 #[.pointer (some ⟨x, 0, none⟩), .int .i64 n] w fun e w' => e = .returned (.tuple #[]) ∧ XAt w' N x v (S.setFuse n) ∧ Step w w' x v v := by
  obtain ⟨c0, c1, c2, c3, c4⟩ := h.cells
  have f3 := h.free 3
  by_cases hm : n < -1
  · have HT : Hid (S.setFuse n = { S with fuse := -1 }) := Lib.hid (by simp [St.setFuse, hm])
    have HS : Hid (XAt (w.setCell ⟨x, 3, none⟩ (.int .i64 (-1))) N x v { S with fuse := -1 }) := Lib.hid (h.set 3 _ rfl rfl)
    clear c0 c1 c2 c4 h
    go_enter Try.func22, Try.ntmps22
    go_wp2
    go_end0
    exact ⟨rfl, by rw [HT.out]; exact HS.out, (Step.refl _ _ _).set _ _⟩
  · have HT : Hid (S.setFuse n = { S with fuse := n }) := Lib.hid (by simp [St.setFuse, hm])
    have HS : Hid (XAt (w.setCell ⟨x, 3, none⟩ (.int .i64 n)) N x v { S with fuse := n }) := Lib.hid (h.set 3 _ rfl rfl)
    clear c0 c1 c2 c4 h
    go_enter Try.func22, Try.ntmps22
    go_wp2
    go_end0
    exact ⟨rfl, by rw [HT.out]; exact HS.out, (Step.refl _ _ _).set _ _⟩
theorem rsync_calls (N x : Nat) (v : Value) (S : St) (w : World) (h : XAt w N x v S) (hf : S.Fit) :
    Calls Try.prog 19 #[.pointer (some ⟨x, 0, none⟩)] w fun e w' => e = .returned (.int .i64 S.rsync.2) ∧ XAt w' N x v S.rsync.1 ∧ Step w w' x v v := by
  cases hl : S.live with
  | false =>
    have HR : Hid (S.rsync = (S.rtick, 11)) := Lib.hid (by simp [St.rsync, hl])
    go_enter Try.func19, Try.ntmps19
    go_wp2_with fail
    refine (alive_calls N x v S w h hf).mono ?_
    rw [hl]
    rintro e w1 ⟨rfl, h1, k1⟩
    have H1 := Lib.hid (And.intro h1 k1)
    clear h1 k1 hl
    go_wp2_with fail
    go_ret
    rw [HR.out]
    exact ⟨rfl, H1.out⟩
  | true =>
    have HR : Hid (S.rsync = ({ S.rtick with safe := S.L.length }, 0)) := Lib.hid (by simp [St.rsync, hl])
    go_enter Try.func19, Try.ntmps19
    go_wp2_with fail
    refine (alive_calls N x v S w h hf).mono ?_
    rw [hl]
    rintro e w1 ⟨rfl, h1, k1⟩
    obtain ⟨ao, cp, hv⟩ := own_shape h1.2
    rw [rtick_L] at hv
    obtain ⟨c0, c1, c2, c3, c4⟩ := h1.cells
    rw [hv] at c0
    have f1 := h1.free 1
    have HS : Hid (XAt (w1.setCell ⟨x, 1, none⟩ (.int .i64 (S.L.length : Int))) N x v { S.rtick with safe := S.L.length }) := Lib.hid (h1.set 1 _ rfl rfl)
    have HK := Lib.hid k1
    have hle := hf.len
    have hrm := hf.room
    clear h1 k1 hl c2 c3 c4 hv
    go_wp2_with fail
    go_ret
    rw [HR.out]
    exact ⟨rfl, HS.out, HK.out.set _ _⟩
theorem xcut_after {w : World} {N x : Nat} {v : Value} {S : St} {n : Nat} {ao : Option Addr} {cp : Nat} (h : XAt w N x v S) (hv : v = .slice ao S.L.length cp) (hn : n ≤ S.L.length) (m : Nat) :
    XAt ((w.setCell ⟨x, 0, none⟩ (.slice ao n cp)).setCell ⟨x, 1, none⟩ (.int .i64 (m : Int))) N x (.slice ao n cp) { S with L := S.L.take n, safe := m } := by
  have hb : (Value.slice ao n cp).ownBlock = v.ownBlock := by rw [hv]; cases ao <;> rfl
  have h1 := blk_set h.1 0 (.slice ao n cp)
  have h2 := h.2
  rw [hv] at h2
  have h3 := own_cut h2 hn
  refine ⟨by rw [blk_set h1 1]; rfl, ?_⟩
  have hl : (S.L.take n).length = n := by rw [List.length_take]; omega
  refine own_stay h3 fun g hg => ?_
  have hne := h.ne g (hb ▸ hg)
  rw [set_other _ _ _ _ hne, set_other _ _ _ _ hne]
theorem rcut_calls (N x : Nat) (v : Value) (S : St) (n : Int) (w : World) (h : XAt w N x v S) (hf : S.Fit) :
    Calls Try.prog 20 #[.pointer (some ⟨x, 0, none⟩), .int .i64 n] w fun e w' => e = .returned (.int .i64 (S.rcut n).2) ∧ ∃ v', XAt w' N x v' (S.rcut n).1 ∧ Step w w' x v v' := by
  cases hl : S.live with
  | false =>
    have HR : Hid (S.rcut n = (S.rtick, 11)) := Lib.hid (by simp [St.rcut, hl])
    go_enter Try.func20, Try.ntmps20
    go_wp2_with fail
    refine (alive_calls N x v S w h hf).mono ?_
    rw [hl]
    rintro e w1 ⟨rfl, h1, k1⟩
    have H1 := Lib.hid (And.intro h1 k1)
    clear h1 k1 hl
    go_wp2_with fail
    go_ret
    rw [HR.out]
    exact ⟨rfl, v, H1.out⟩
  | true =>
    have hle := hf.len
    have hrm := hf.room
    have hsf := hf.safe
    by_cases hb : n < 0 ∨ (S.L.length : Int) < n
    · have HR : Hid (S.rcut n = (S.rtick, 1)) := Lib.hid (by simp [St.rcut, hl, hb])
      rcases (show n < 0 ∨ (¬ n < 0 ∧ (S.L.length : Int) < n) by omega) with h0 | ⟨h0, h0'⟩
      all_goals
        clear hb
        go_enter Try.func20, Try.ntmps20
        go_wp2_with fail
        refine (alive_calls N x v S w h hf).mono ?_
        rw [hl]
        rintro e w1 ⟨rfl, h1, k1⟩
        obtain ⟨ao, cp, hv⟩ := own_shape h1.2
        rw [rtick_L] at hv
        obtain ⟨c0, c1, c2, c3, c4⟩ := h1.cells
        rw [hv] at c0
        have H1 := Lib.hid (And.intro h1 k1)
        clear h1 k1 hl c1 c2 c3 c4 hv
        go_wp2_with fail
        go_ret
        rw [HR.out]
        exact ⟨rfl, v, H1.out⟩
    · obtain ⟨m, rfl⟩ := Int.eq_ofNat_of_zero_le (show 0 ≤ n by omega)
      have hm : m ≤ S.L.length := by omega
      have HR : Hid (S.rcut (m : Int) = ({ S.rtick with L := S.L.take m, safe := min S.safe m }, 0)) := Lib.hid (by simp [St.rcut, hl]; omega)
      clear hb
      go_enter Try.func20, Try.ntmps20
      go_wp2_with fail
      refine (alive_calls N x v S w h hf).mono ?_
      rw [hl]
      rintro e w1 ⟨rfl, h1, k1⟩
      obtain ⟨ao, cp, hv⟩ := own_shape h1.2
      rw [rtick_L] at hv
      obtain ⟨c0, c1, c2, c3, c4⟩ := h1.cells
      rw [hv] at c0
      rw [rtick_safe] at c1
      have f0 := h1.free 0
      have f1 := h1.free 1
      have hcap : S.L.length ≤ cp := by
        have hc := h1.2
        rw [hv, rtick_L] at hc
        rcases hc.2 with ⟨e, h0⟩ | ⟨g, cap, cur, e, _, _, h1, _⟩
        · omega
        · injection e with _ _ e3
          subst e3
          exact h1
      have HS : ∀ z : Nat, Hid (z = min S.safe m → XAt ((w1.setCell ⟨x, 0, none⟩ (.slice ao m cp)).setCell ⟨x, 1, none⟩ (.int .i64 (z : Int))) N x (.slice ao m cp) { S.rtick with L := S.L.take m, safe := min S.safe m }) := fun z => Lib.hid (fun hz => by
        subst hz
        have := xcut_after (S := S.rtick) (n := m) (ao := ao) (cp := cp) h1 (by rw [rtick_L]; exact hv) (by rw [rtick_L]; exact hm) (min S.safe m)
        rw [rtick_L] at this
        exact this)
      have HK : Hid ((Value.slice ao m cp).ownBlock = v.ownBlock) := Lib.hid (by rw [hv]; cases ao <;> rfl)
      have HK1 := Lib.hid k1
      have hmc : m ≤ cp := by omega
      clear h1 k1 hl c2 c3 c4 hv
      by_cases hmin : S.safe ≤ m
      · go_wp2_with fail
        go_ret
        rw [HR.out]
        exact ⟨rfl, .slice ao m cp, (HS S.safe).out (by omega), ((HK1.out.set 0 _).set 1 _).back HK.out⟩
      · go_wp2_with fail
        go_ret
        rw [HR.out]
        exact ⟨rfl, .slice ao m cp, (HS m).out (by omega), ((HK1.out.set 0 _).set 1 _).back HK.out⟩
theorem rnew_calls (room : Int) (w : World) : Calls Try.prog 17 #[.int .i64 room] w fun e w' => e = .returned (.pointer (some ⟨w.heap.size, 0, none⟩)) ∧ XAt w' w.heap.size w.heap.size (.slice none 0 0) (St.new room) ∧ Below w.heap.size w w' := by
  have key : ∀ r : Int, r = ((St.new room).room : Int) → XAt (w.alloc (.cells #[.slice none 0 0, .int .i64 0, .int .i64 r, .int .i64 (-1), .bool false] 43)) w.heap.size w.heap.size (.slice none 0 0) (St.new room) ∧ Below w.heap.size w (w.alloc (.cells #[.slice none 0 0, .int .i64 0, .int .i64 r, .int .i64 (-1), .bool false] 43)) := by
    intro r hr
    subst hr
    exact ⟨⟨heap_alloc_new w _, World.ownsRow_nil _ _ _ _⟩, (Below.refl _ _).alloc (Nat.le_refl _) _⟩
  by_cases h0 : room < 0
  · have HK := Lib.hid (key 0 (by simp [St.new]; omega))
    clear key
    go_enter Try.func17, Try.ntmps17
    go_wp2
    go_ret
    exact ⟨rfl, HK.out⟩
  · by_cases h1 : 65536 < room
    · have HK := Lib.hid (key 65536 (by simp [St.new]; omega))
      clear key
      go_enter Try.func17, Try.ntmps17
      go_wp2
      go_ret
      exact ⟨rfl, HK.out⟩
    · have HK := Lib.hid (key room (by simp [St.new]; omega))
      clear key
      go_enter Try.func17, Try.ntmps17
      go_wp2
      go_ret
      exact ⟨rfl, HK.out⟩
end Go.Proofs.Ytakpmnlakgkgpaa
