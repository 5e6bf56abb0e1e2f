/- The program's strip, walked: lives, Sync, Cut, Safe, Fuse, New: what they answer and what becomes of the strip; conditions: the strip lies in the world, its bytes in a row of its own. -/
import Derived.Test.YtakpmnlakgkgpaaBase
import Derived.RegionTactic
import Derived.BigRegion
import Derived.ChangeAlike
namespace Go.Proofs.Ytakpmnlakgkgpaa
open Go.RowKit

/-- The strip S lies in block q; v is the value of its bytes. -/
def SAt (w : World) (N q : Nat) (v : Value) (S : St) : Prop :=
  w.heap[q]? = some (.cells #[.int .i64 (S.room : Int), v, .int .i64 (S.safe : Int), .bool S.dead, .int .i64 S.fuse] 48 (0, 0)) ∧ w.ownsRow N 5 1 v S.L.length (bys S.L)
theorem SAt.ne {w : World} {N q : Nat} {v : Value} {S : St} (h : SAt w N q v S) : ∀ g, v.ownBlock = some g → g ≠ q := fun g hg => by
  obtain ⟨_, cur, hh⟩ := own_info h.2 hg
  exact tag_ne hh h.1 (by decide)
theorem SAt.lt {w : World} {N q : Nat} {v : Value} {S : St} (h : SAt w N q v S) : q < w.heap.size := (Array.getElem?_eq_some_iff.1 h.1).1
theorem SAt.set {w : World} {N q : Nat} {v : Value} {S T : St} (h : SAt w N q v S) (i : Nat) (u : Value) (hL : T.L = S.L)
    (hc : (#[.int .i64 (S.room : Int), v, .int .i64 (S.safe : Int), .bool S.dead, .int .i64 S.fuse] : Array Value).setIfInBounds i u = #[.int .i64 (T.room : Int), v, .int .i64 (T.safe : Int), .bool T.dead, .int .i64 T.fuse]) :
    SAt (w.setCell ⟨q, i, none⟩ u) N q v T := by
  refine ⟨by rw [blk_set h.1 i u, hc], ?_⟩
  rw [hL]
  exact own_stay h.2 fun g hg => set_other _ _ _ _ (h.ne g hg)
theorem SAt.cells {w : World} {N q : Nat} {v : Value} {S : St} (h : SAt w N q v S) : w.cell? ⟨q, 0, none⟩ = some (.int .i64 (S.room : Int)) ∧ w.cell? ⟨q, 1, none⟩ = some v ∧ w.cell? ⟨q, 2, none⟩ = some (.int .i64 (S.safe : Int)) ∧ w.cell? ⟨q, 3, none⟩ = some (.bool S.dead) ∧ w.cell? ⟨q, 4, none⟩ = some (.int .i64 S.fuse) :=
  ⟨cell_of h.1 0, cell_of h.1 1, cell_of h.1 2, cell_of h.1 3, cell_of h.1 4⟩
theorem SAt.free {w : World} {N q : Nat} {v : Value} {S : St} (h : SAt w N q v S) (i : Nat) : w.frozen? ⟨q, i, none⟩ = false := free_of h.1 i
theorem SAt.drewN {w : World} {N q : Nat} {v : Value} {S : St} (h : SAt w N q v S) (n : Nat) : SAt (w.drewN n) N q v S := h

theorem lives_no (N q : Nat) (v : Value) (S : St) (w : World) (h : SAt w N q v S) (hl : S.live = false) :
    Calls Try.prog 25 #[.pointer (some ⟨q, 0, none⟩)] w fun e w' => e = .returned (.bool false) ∧ SAt w' N q v S.tick ∧ Step w w' q v v := by
  obtain ⟨c0, c1, c2, c3, c4⟩ := h.cells
  have f3 := h.free 3
  cases hd : S.dead with
  | true =>
    have HT : Hid (S.tick = S) := Lib.hid (by simp [St.tick, hd])
    rw [hd] at c3
    clear hd hl c0 c1 c2 c4 f3
    go_enter Try.func25, Try.ntmps25
    go_wp2
    go_ret
    exact ⟨rfl, by rw [HT.out]; exact h, Step.refl _ _ _⟩
  | false =>
    have hz : S.fuse = 0 := by simpa [St.live, hd] using hl
    have HT : Hid (S.tick = { S with dead := true }) := Lib.hid (by simp [St.tick, hd, hz])
    have HS : Hid (SAt (w.setCell ⟨q, 3, none⟩ (.bool true)) N q v { S with dead := true }) := Lib.hid (h.set 3 _ rfl rfl)
    rw [hd] at c3
    rw [hz] at c4
    clear hd hl hz c0 c1 c2
    go_enter Try.func25, Try.ntmps25
    go_wp2
    go_ret
    exact ⟨rfl, by rw [HT.out]; exact HS.out, (Step.refl _ _ _).set _ _⟩
theorem lives_yes (N q : Nat) (v : Value) (S : St) (w : World) (h : SAt w N q v S) (hf : S.Fit) (hl : S.live = true) :
    Calls Try.prog 25 #[.pointer (some ⟨q, 0, none⟩)] w fun e w' => e = .returned (.bool true) ∧ SAt w' N q v S.tick ∧ Step w w' q v v := by
  obtain ⟨c0, c1, c2, c3, c4⟩ := h.cells
  have f4 := h.free 4
  have hd : S.dead = false := by
    have := hl
    simp [St.live] at this
    exact this.1
  have hz : ¬ S.fuse = 0 := by
    have := hl
    simp [St.live] at this
    exact this.2
  have hlo := hf.lo
  have hhi := hf.hi
  have HH := Lib.hid h
  rw [hd] at c3
  by_cases hm : S.fuse - 1 < -1
  · have HT : Hid (S.tick = { S with fuse := -1 }) := Lib.hid (by simp [St.tick, hd, hz, hm])
    have HS : Hid (SAt (w.setCell ⟨q, 4, none⟩ (.int .i64 (-1))) N q v { S with fuse := -1 }) := Lib.hid (h.set 4 _ rfl rfl)
    obtain ⟨f, hfz⟩ : ∃ f, S.fuse = f := ⟨_, rfl⟩
    rw [hfz] at c4 hz hlo hhi hm
    clear hd hl c0 c1 c2 hfz h
    go_enter Try.func25, Try.ntmps25
    go_wp2
    go_ret
    exact ⟨rfl, by rw [HT.out]; exact HS.out, (Step.refl _ _ _).set _ _⟩
  · have HT : Hid (S.tick = { S with fuse := S.fuse - 1 }) := Lib.hid (by simp [St.tick, hd, hz, hm])
    have HS : Hid (SAt (w.setCell ⟨q, 4, none⟩ (.int .i64 (S.fuse - 1))) N q v { S with fuse := S.fuse - 1 }) := Lib.hid (h.set 4 _ rfl rfl)
    obtain ⟨f, hfz⟩ : ∃ f, S.fuse = f := ⟨_, rfl⟩
    rw [hfz] at c4 hz hlo hhi hm HS HT
    clear hd hl c0 c1 c2 hfz h
    go_enter Try.func25, Try.ntmps25
    go_wp2
    go_ret
    exact ⟨rfl, by rw [HT.out]; exact HS.out, (Step.refl _ _ _).set _ _⟩
theorem lives_nil (w : World) : Calls Try.prog 25 #[.pointer none] w fun e w' => e = .returned (.bool false) ∧ w = w' := by
  go_enter Try.func25, Try.ntmps25
  go_wp2
  go_ret
  exact ⟨rfl, rfl⟩
theorem safe_calls (N q : Nat) (v : Value) (S : St) (w : World) (h : SAt w N q v S) : Calls Try.prog 15 #[.pointer (some ⟨q, 0, none⟩)] w fun e w' => e = .returned (.int .i64 (S.safe : Int)) ∧ w = w' := by
  obtain ⟨c0, c1, c2, c3, c4⟩ := h.cells
  clear h c0 c1 c3 c4
  go_enter Try.func15, Try.ntmps15
  go_wp2
  go_ret
  exact ⟨rfl, rfl⟩
theorem safe_nil (w : World) : Calls Try.prog 15 #[.pointer none] w fun e w' => e = .returned (.int .i64 0) ∧ w = w' := by
  go_enter Try.func15, Try.ntmps15
  go_wp2
  go_ret
  exact ⟨rfl, rfl⟩
theorem fuse_calls (N q : Nat) (v : Value) (S : St) (n : Int) (w : World) (h : SAt w N q v S) : Calls Try.prog 21 #[.pointer (some ⟨q, 0, none⟩), .int .i64 n] w fun e w' => e = .returned (.tuple #[]) ∧ SAt w' N q v (S.setFuse n) ∧ Step w w' q v v := by
  obtain ⟨c0, c1, c2, c3, c4⟩ := h.cells
  have f4 := h.free 4
  by_cases hm : n < -1
  · have HS : Hid (SAt (w.setCell ⟨q, 4, none⟩ (.int .i64 (-1))) N q v (S.setFuse n)) := Lib.hid (h.set 4 _ rfl (by simp [St.setFuse, hm]))
    clear h c0 c1 c2 c3
    go_enter Try.func21, Try.ntmps21
    go_wp2
    go_end0
    exact ⟨rfl, HS.out, (Step.refl _ _ _).set _ _⟩
  · have HS : Hid (SAt (w.setCell ⟨q, 4, none⟩ (.int .i64 n)) N q v (S.setFuse n)) := Lib.hid (h.set 4 _ rfl (by simp [St.setFuse, hm]))
    clear h c0 c1 c2 c3
    go_enter Try.func21, Try.ntmps21
    go_wp2
    go_end0
    exact ⟨rfl, HS.out, (Step.refl _ _ _).set _ _⟩
theorem fuse_nil (n : Int) (w : World) : Calls Try.prog 21 #[.pointer none, .int .i64 n] w fun e w' => e = .returned (.tuple #[]) ∧ w = w' := by
  go_enter Try.func21, Try.ntmps21
  go_wp2
  go_end0
  exact ⟨rfl, rfl⟩
theorem sync_calls (N q : Nat) (v : Value) (S : St) (w : World) (h : SAt w N q v S) (hf : S.Fit) :
    Calls Try.prog 13 #[.pointer (some ⟨q, 0, none⟩)] w fun e w' => e = .returned (.int .i64 S.sync.2) ∧ SAt w' N q v S.sync.1 ∧ Step w w' q v v := by
  cases hl : S.live with
  | false =>
    have HR : Hid (S.sync = (S.tick, 11)) := Lib.hid (by simp [St.sync, hl])
    go_enter Try.func13, Try.ntmps13
    go_wp2_with fail
    refine (lives_no N q v S w h hl).mono ?_
    rintro e w1 ⟨rfl, h1, k1⟩
    have H1 := Lib.hid (And.intro h1 k1)
    clear h1 k1 hl
    go_wp2_with fail
    go_ret
    rw [HR.out]
    exact ⟨rfl, H1.out⟩
  | true =>
    have HR : Hid (S.sync = ({ S.tick with safe := S.L.length }, 0)) := Lib.hid (by simp [St.sync, hl])
    go_enter Try.func13, Try.ntmps13
    go_wp2_with fail
    refine (lives_yes N q v S w h hf hl).mono ?_
    rintro e w1 ⟨rfl, h1, k1⟩
    obtain ⟨ao, cp, hv⟩ := own_shape h1.2
    rw [tick_L] at hv
    obtain ⟨c0, c1, c2, c3, c4⟩ := h1.cells
    rw [hv] at c1
    have f2 := h1.free 2
    have HS : Hid (SAt (w1.setCell ⟨q, 2, none⟩ (.int .i64 (S.L.length : Int))) N q v { S.tick with safe := S.L.length }) := Lib.hid (h1.set 2 _ rfl rfl)
    have HK := Lib.hid k1
    have hle := hf.len
    have hrm := hf.room
    clear h1 k1 hl c0 c3 c4 hv
    go_wp2_with fail
    go_ret
    rw [HR.out]
    exact ⟨rfl, HS.out, HK.out.set _ _⟩
theorem sync_nil (w : World) : Calls Try.prog 13 #[.pointer none] w fun e w' => e = .returned (.int .i64 11) ∧ w = w' := by
  go_enter Try.func13, Try.ntmps13
  go_wp2_with fail
  refine (lives_nil w).mono ?_
  rintro e w1 ⟨rfl, rfl⟩
  go_wp2_with fail
  go_ret
  exact ⟨rfl, rfl⟩
/-- A row cut behind its first n. -/
theorem own_cut {w : World} {N : Nat} {ao : Option Addr} {cp n : Nat} {l : List UInt8} (h : w.ownsRow N 5 1 (.slice ao l.length cp) l.length (bys l)) (hn : n ≤ l.length) : w.ownsRow N 5 1 (.slice ao n cp) (l.take n).length (bys (l.take n)) := by
  have hlen : (l.take n).length = n := by simp; omega
  refine ⟨by simp [bys_length], ?_⟩
  rcases h.2 with ⟨hv, h0⟩ | ⟨g, cap, cur, hv, hb, hh, h1, h2, h3, h4⟩
  · injection hv with e1 e2 e3
    subst e1 e3
    exact .inl ⟨by rw [show n = 0 by omega], by omega⟩
  · injection hv with e1 e2 e3
    subst e1 e3
    refine .inr ⟨g, cp, cur, by rw [hlen], hb, hh, by omega, h2, h3, ?_⟩
    rw [bys_take, ← h4, List.take_take]
    congr 1
    omega
/-- What Cut leaves. -/
theorem cut_after {w : World} {N q : Nat} {v : Value} {S : St} {n : Nat} {ao : Option Addr} {cp : Nat} (h : SAt w N q v S) (hv : v = .slice ao S.L.length cp) (hn : n ≤ S.L.length) (m : Nat) :
    SAt ((w.setCell ⟨q, 1, none⟩ (.slice ao n cp)).setCell ⟨q, 2, none⟩ (.int .i64 (m : Int))) N q (.slice ao n cp) { S with L := S.L.take n, safe := m } ∧ (Value.slice ao n cp).ownBlock = v.ownBlock := by
  have e : (Value.slice ao n cp).ownBlock = v.ownBlock := by rw [hv]; cases ao <;> rfl
  refine ⟨⟨?_, ?_⟩, e⟩
  · have := blk_set (blk_set h.1 1 (.slice ao n cp)) 2 (.int .i64 (m : Int))
    simpa using this
  · have hown := h.2
    rw [hv] at hown
    refine own_stay (own_cut hown hn) fun g hg => ?_
    rw [e] at hg
    rw [set_other _ _ _ _ (h.ne g hg), set_other _ _ _ _ (h.ne g hg)]
theorem Step.back {a b : World} {q : Nat} {v u : Value} (h : Step a b q v v) (hu : u.ownBlock = v.ownBlock) : Step a b q v u := ⟨h.os, h.tape, h.output, h.size, h.block, .inl hu⟩
theorem cut_nil (n : Int) (w : World) : Calls Try.prog 14 #[.pointer none, .int .i64 n] w fun e w' => e = .returned (.int .i64 11) ∧ w = w' := by
  go_enter Try.func14, Try.ntmps14
  go_wp2_with fail
  refine (lives_nil w).mono ?_
  rintro e w1 ⟨rfl, rfl⟩
  go_wp2_with fail
  go_ret
  exact ⟨rfl, rfl⟩
set_option maxHeartbeats 1000000 in
theorem cut_calls (N q : Nat) (v : Value) (S : St) (n : Int) (w : World) (h : SAt w N q v S) (hf : S.Fit) :
    Calls Try.prog 14 #[.pointer (some ⟨q, 0, none⟩), .int .i64 n] w fun e w' => e = .returned (.int .i64 (S.cut n).2) ∧ ∃ v', SAt w' N q v' (S.cut n).1 ∧ Step w w' q v v' := by
  cases hl : S.live with
  | false =>
    have HR : Hid (S.cut n = (S.tick, 11)) := Lib.hid (by simp [St.cut, hl])
    go_enter Try.func14, Try.ntmps14
    go_wp2_with fail
    refine (lives_no N q v S w h hl).mono ?_
    rintro e w1 ⟨rfl, h1, k1⟩
    have H1 := Lib.hid (And.intro h1 k1)
    clear h1 k1 hl
    go_wp2_with fail
    go_ret
    rw [HR.out]
    exact ⟨rfl, v, H1.out⟩
  | true =>
    have hle := hf.len
    have hrm := hf.room
    have hsf := hf.safe
    by_cases hb : n < 0 ∨ (S.L.length : Int) < n
    · have HR : Hid (S.cut n = (S.tick, 1)) := Lib.hid (by simp [St.cut, hl, hb])
      rcases (show n < 0 ∨ (¬ n < 0 ∧ (S.L.length : Int) < n) by omega) with h0 | ⟨h0, h0'⟩
      all_goals
        clear hb
        go_enter Try.func14, Try.ntmps14
        go_wp2_with fail
        refine (lives_yes N q v S w h hf hl).mono ?_
        rintro e w1 ⟨rfl, h1, k1⟩
        obtain ⟨ao, cp, hv⟩ := own_shape h1.2
        rw [tick_L] at hv
        obtain ⟨c0, c1, c2, c3, c4⟩ := h1.cells
        rw [hv] at c1
        have H1 := Lib.hid (And.intro h1 k1)
        clear h1 k1 hl c0 c2 c3 c4 hv
        go_wp2_with fail
        go_ret
        rw [HR.out]
        exact ⟨rfl, v, H1.out⟩
    · obtain ⟨m, rfl⟩ := Int.eq_ofNat_of_zero_le (show 0 ≤ n by omega)
      have hm : m ≤ S.L.length := by omega
      have HR : Hid (S.cut (m : Int) = ({ S.tick with L := S.L.take m, safe := min S.safe m }, 0)) := Lib.hid (by simp [St.cut, hl]; omega)
      clear hb
      go_enter Try.func14, Try.ntmps14
      go_wp2_with fail
      refine (lives_yes N q v S w h hf hl).mono ?_
      rintro e w1 ⟨rfl, h1, k1⟩
      obtain ⟨ao, cp, hv⟩ := own_shape h1.2
      rw [tick_L] at hv
      obtain ⟨c0, c1, c2, c3, c4⟩ := h1.cells
      rw [hv] at c1
      rw [tick_safe] at c2
      have f1 := h1.free 1
      have f2 := h1.free 2
      have hcap : S.L.length ≤ cp := by
        have hc := h1.2
        rw [hv, tick_L] at hc
        rcases hc.2 with ⟨e, h0⟩ | ⟨g, cap, cur, e, _, _, h1, _⟩
        · omega
        · injection e with _ _ e3
          subst e3
          exact h1
      have HS : ∀ z : Nat, Hid (z = min S.safe m → SAt ((w1.setCell ⟨q, 1, none⟩ (.slice ao m cp)).setCell ⟨q, 2, none⟩ (.int .i64 (z : Int))) N q (.slice ao m cp) { S.tick with L := S.L.take m, safe := min S.safe m }) := fun z => Lib.hid (fun hz => by
        subst hz
        have := (cut_after (S := S.tick) (n := m) (ao := ao) (cp := cp) h1 (by rw [tick_L]; exact hv) (by rw [tick_L]; exact hm) (min S.safe m)).1
        rw [tick_L] at this
        exact this)
      have HK : Hid ((Value.slice ao m cp).ownBlock = v.ownBlock) := Lib.hid (by rw [hv]; cases ao <;> rfl)
      have HK1 := Lib.hid k1
      have hmc : m ≤ cp := by omega
      clear h1 k1 hl c0 c3 c4 hv
      by_cases hmin : S.safe ≤ m
      · go_wp2_with fail
        go_region
        go_wp2_with fail
        go_ret
        rw [HR.out]
        exact ⟨rfl, .slice ao m cp, ((HS S.safe).out (by omega)).drewN 1, (((HK1.out.set 1 _).set 2 _).back HK.out).drewN 1⟩
      · go_wp2_with fail
        go_region
        go_wp2_with fail
        go_ret
        rw [HR.out]
        exact ⟨rfl, .slice ao m cp, ((HS m).out (by omega)).drewN 1, (((HK1.out.set 1 _).set 2 _).back HK.out).drewN 1⟩
theorem new_calls (room : Int) (w : World) : Calls Try.prog 9 #[.int .i64 room] w fun e w' => e = .returned (.pointer (some ⟨w.heap.size, 0, none⟩)) ∧ SAt w' w.heap.size w.heap.size (.slice none 0 0) (St.new room) ∧ Below w.heap.size w w' := by
  have key : ∀ r : Int, r = ((St.new room).room : Int) → SAt (w.alloc (.cells #[.int .i64 r, .slice none 0 0, .int .i64 0, .bool false, .int .i64 (-1)] 48)) w.heap.size w.heap.size (.slice none 0 0) (St.new room) ∧ Below w.heap.size w (w.alloc (.cells #[.int .i64 r, .slice none 0 0, .int .i64 0, .bool false, .int .i64 (-1)] 48)) := by
    intro r hr
    subst hr
    exact ⟨⟨heap_alloc_new w _, World.ownsRow_nil _ _ _ _⟩, (Below.refl _ _).alloc (Nat.le_refl _) _⟩
  by_cases h0 : room < 0
  · have HK := Lib.hid (key 0 (by simp [St.new]; omega))
    clear key
    go_enter Try.func9, Try.ntmps9
    go_wp2
    go_ret
    exact ⟨rfl, HK.out⟩
  · by_cases h1 : 65536 < room
    · have HK := Lib.hid (key 65536 (by simp [St.new]; omega))
      clear key
      go_enter Try.func9, Try.ntmps9
      go_wp2
      go_ret
      exact ⟨rfl, HK.out⟩
    · have HK := Lib.hid (key room (by simp [St.new]; omega))
      clear key
      go_enter Try.func9, Try.ntmps9
      go_wp2
      go_ret
      exact ⟨rfl, HK.out⟩
end Go.Proofs.Ytakpmnlakgkgpaa
