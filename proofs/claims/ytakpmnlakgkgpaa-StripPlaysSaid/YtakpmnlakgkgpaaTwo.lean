/- Two strips side by side, the program's and the answer's: what each act does to both; no program is walked here. -/
import Derived.Test.YtakpmnlakgkgpaaRefB
namespace Go.Proofs.Ytakpmnlakgkgpaa
open Go.RowKit
/-- The program's strip S lies in block q, the answer's R in block x, both made since w0; neither has anything of the other's. -/
def Two (w0 w : World) (q : Nat) (S : St) (x : Nat) (R : St) : Prop :=
  S.Fit ∧ R.Fit ∧ w0.heap.size ≤ q ∧ w0.heap.size ≤ x ∧ Below w0.heap.size w0 w ∧ ∃ v u, SAt w w0.heap.size q v S ∧ XAt w w0.heap.size x u R ∧ (∀ g, v.ownBlock = some g → u.ownBlock ≠ some g)
theorem Two.bel {w0 w : World} {q x : Nat} {S R : St} (h : Two w0 w q S x R) : Below w0.heap.size w0 w := h.2.2.2.2.1
theorem SAt.below {w w' : World} {N q : Nat} {v : Value} {S : St} (h : SAt w N q v S) (hb : Below w.heap.size w w') : SAt w' N q v S :=
  ⟨by rw [hb.block q h.lt]; exact h.1, own_stay h.2 fun g hg => hb.block g (h.2.lt g hg).2⟩
theorem XAt.below {w w' : World} {N q : Nat} {v : Value} {S : St} (h : XAt w N q v S) (hb : Below w.heap.size w w') : XAt w' N q v S :=
  ⟨by rw [hb.block q h.lt]; exact h.1, own_stay h.2 fun g hg => hb.block g (h.2.lt g hg).2⟩
theorem Two.below {w0 w w' : World} {q x : Nat} {S R : St} (h : Two w0 w q S x R) (hb : Below w.heap.size w w') : Two w0 w' q S x R := by
  obtain ⟨hf, hg, hq, hx, hb0, v, u, h1, h2, h3⟩ := h
  exact ⟨hf, hg, hq, hx, hb0.trans (hb.mono hb0.size), v, u, h1.below hb, h2.below hb, h3⟩
theorem Two.drewN {w0 w : World} {q x : Nat} {S R : St} (h : Two w0 w q S x R) (n : Nat) : Two w0 (w.drewN n) q S x R := h.below (below_drewN (Below.refl _ _) n)
theorem SAt.ne_x {w : World} {N q x : Nat} {v u : Value} {S R : St} (h1 : SAt w N q v S) (h2 : XAt w N x u R) : q ≠ x := tag_ne h1.1 h2.1 (by decide)
theorem SAt.row_x {w : World} {N q x : Nat} {v u : Value} {S R : St} (h1 : SAt w N q v S) (h2 : XAt w N x u R) {g : Nat} (hg : v.ownBlock = some g) : g ≠ x := by
  obtain ⟨_, cur, hh⟩ := own_info h1.2 hg
  exact tag_ne hh h2.1 (by decide)
theorem XAt.row_q {w : World} {N q x : Nat} {v u : Value} {S R : St} (h1 : SAt w N q v S) (h2 : XAt w N x u R) {g : Nat} (hg : u.ownBlock = some g) : g ≠ q := by
  obtain ⟨_, cur, hh⟩ := own_info h2.2 hg
  exact tag_ne hh h1.1 (by decide)
theorem two_left {w0 w w' : World} {q x : Nat} {S R T : St} {v v' u : Value} (hg : R.Fit) (hq : w0.heap.size ≤ q) (hx : w0.heap.size ≤ x) (hb0 : Below w0.heap.size w0 w)
    (h1 : SAt w w0.heap.size q v S) (h2 : XAt w w0.heap.size x u R) (h3 : ∀ g, v.ownBlock = some g → u.ownBlock ≠ some g) (hT : T.Fit) (h' : SAt w' w0.heap.size q v' T) (k : Step w w' q v v') : Two w0 w' q T x R := by
  refine ⟨hT, hg, hq, hx, k.below hb0 hq h1.2 hb0.size, v', u, h', ⟨?_, own_stay h2.2 fun g hg => ?_⟩, fun g hg hu => ?_⟩
  · rw [k.block x h2.lt (h1.ne_x h2).symm (fun e => h1.row_x h2 e.symm rfl)]
    exact h2.1
  · exact k.block g (h2.2.lt g hg).2 (XAt.row_q h1 h2 hg) (fun e => h3 g e.symm hg)
  · rcases k.new with e | e
    · exact h3 g (e ▸ hg) hu
    · have := e g hg
      have := (h2.2.lt g hu).2
      omega
theorem two_right {w0 w w' : World} {q x : Nat} {S R T : St} {v u u' : Value} (hf : S.Fit) (hq : w0.heap.size ≤ q) (hx : w0.heap.size ≤ x) (hb0 : Below w0.heap.size w0 w)
    (h1 : SAt w w0.heap.size q v S) (h2 : XAt w w0.heap.size x u R) (h3 : ∀ g, v.ownBlock = some g → u.ownBlock ≠ some g) (hT : T.Fit) (h' : XAt w' w0.heap.size x u' T) (k : Step w w' x u u') : Two w0 w' q S x T := by
  refine ⟨hf, hT, hq, hx, k.below hb0 hx h2.2 hb0.size, v, u', ⟨?_, own_stay h1.2 fun g hg => ?_⟩, h', fun g hg hu => ?_⟩
  · rw [k.block q h1.lt (h1.ne_x h2) (fun e => XAt.row_q h1 h2 e.symm rfl)]
    exact h1.1
  · exact k.block g (h1.2.lt g hg).2 (h1.row_x h2 hg) (fun e => h3 g hg e.symm)
  · rcases k.new with e | e
    · exact h3 g hg (e ▸ hu)
    · have := e g hu
      have := (h1.2.lt g hg).2
      omega
theorem rwrite_fit {S : St} (h : S.Fit) (p : List UInt8) : (S.rwrite p).1.Fit := by
  have ht := rtick_fit h
  unfold St.rwrite
  split
  · exact ht
  · split
    · exact ht
    · obtain ⟨h1, h2, h3, h4, h5⟩ := h
      refine ⟨ht.room, ?_, ?_, ht.lo, ht.hi⟩ <;> simp only [List.length_append, rtick_room, rtick_safe] <;> omega
theorem rsync_fit {S : St} (h : S.Fit) : S.rsync.1.Fit := by
  have ht := rtick_fit h
  unfold St.rsync
  split
  · exact ht
  · exact ⟨ht.room, ht.len, by simp only [rtick_L]; exact Nat.le_refl _, ht.lo, ht.hi⟩
theorem rcut_fit {S : St} (h : S.Fit) (n : Int) : (S.rcut n).1.Fit := by
  have ht := rtick_fit h
  unfold St.rcut
  split
  · exact ht
  · split
    · exact ht
    · obtain ⟨h1, h2, h3, h4, h5⟩ := h
      refine ⟨ht.room, ?_, ?_, ht.lo, ht.hi⟩ <;> simp only [List.length_take, rtick_room] <;> omega

/-! ### the acts -/
section
variable {w0 w : World} {q x : Nat} {S R : St}
theorem two_new (w0 : World) (room : Int) : Calls Try.prog 9 #[.int .i64 room] w0 fun e w' => ∃ q, e = .returned (.pointer (some ⟨q, 0, none⟩)) ∧ Has w0 w' q (St.new room) := (has_new w0 room w0 (Below.refl _ _)).mono fun _ _ ⟨q, e, h, _⟩ => ⟨q, e, h⟩
theorem two_rnew (room : Int) (h : Has w0 w q S) : Calls Try.prog 17 #[.int .i64 room] w fun e w' => ∃ x, e = .returned (.pointer (some ⟨x, 0, none⟩)) ∧ Two w0 w' q S x (St.new room) := by
  obtain ⟨hf, hq, hb0, v, hS⟩ := h
  refine (rnew_calls room w).mono ?_
  rintro e w1 ⟨rfl, h1, hb1⟩
  exact ⟨w.heap.size, rfl, hf, new_fit _, hq, hb0.size, hb0.trans (hb1.mono hb0.size), v, _, hS.below hb1, ⟨h1.1, own_base h1.2 hb0.size⟩, fun g _ e => by cases e⟩
theorem two_sync (h : Two w0 w q S x R) : Calls Try.prog 13 #[.pointer (some ⟨q, 0, none⟩)] w fun e w' => e = .returned (.int .i64 S.sync.2) ∧ Two w0 w' q S.sync.1 x R := by
  obtain ⟨hf, hg, hq, hx, hb0, v, u, h1, h2, h3⟩ := h
  refine (sync_calls _ q v S w h1 hf).mono ?_
  rintro e w1 ⟨rfl, h', k⟩
  exact ⟨rfl, two_left hg hq hx hb0 h1 h2 h3 (sync_fit hf) h' k⟩
theorem two_rsync (h : Two w0 w q S x R) : Calls Try.prog 19 #[.pointer (some ⟨x, 0, none⟩)] w fun e w' => e = .returned (.int .i64 R.rsync.2) ∧ Two w0 w' q S x R.rsync.1 := by
  obtain ⟨hf, hg, hq, hx, hb0, v, u, h1, h2, h3⟩ := h
  refine (rsync_calls _ x u R w h2 hg).mono ?_
  rintro e w1 ⟨rfl, h', k⟩
  exact ⟨rfl, two_right hf hq hx hb0 h1 h2 h3 (rsync_fit hg) h' k⟩
theorem two_cut (n : Int) (h : Two w0 w q S x R) : Calls Try.prog 14 #[.pointer (some ⟨q, 0, none⟩), .int .i64 n] w fun e w' => e = .returned (.int .i64 (S.cut n).2) ∧ Two w0 w' q (S.cut n).1 x R := by
  obtain ⟨hf, hg, hq, hx, hb0, v, u, h1, h2, h3⟩ := h
  refine (cut_calls _ q v S n w h1 hf).mono ?_
  rintro e w1 ⟨rfl, v', h', k⟩
  exact ⟨rfl, two_left hg hq hx hb0 h1 h2 h3 (cut_fit hf n) h' k⟩
theorem two_rcut (n : Int) (h : Two w0 w q S x R) : Calls Try.prog 20 #[.pointer (some ⟨x, 0, none⟩), .int .i64 n] w fun e w' => e = .returned (.int .i64 (R.rcut n).2) ∧ Two w0 w' q S x (R.rcut n).1 := by
  obtain ⟨hf, hg, hq, hx, hb0, v, u, h1, h2, h3⟩ := h
  refine (rcut_calls _ x u R n w h2 hg).mono ?_
  rintro e w1 ⟨rfl, v', h', k⟩
  exact ⟨rfl, two_right hf hq hx hb0 h1 h2 h3 (rcut_fit hg n) h' k⟩
theorem two_fuse (n : Int) (hn : n ≤ 9223372036854775807) (h : Two w0 w q S x R) : Calls Try.prog 21 #[.pointer (some ⟨q, 0, none⟩), .int .i64 n] w fun e w' => e = .returned (.tuple #[]) ∧ Two w0 w' q (S.setFuse n) x R := by
  obtain ⟨hf, hg, hq, hx, hb0, v, u, h1, h2, h3⟩ := h
  refine (fuse_calls _ q v S n w h1).mono ?_
  rintro e w1 ⟨rfl, h', k⟩
  exact ⟨rfl, two_left hg hq hx hb0 h1 h2 h3 (fuse_fit hf n hn) h' k⟩
theorem two_rfuse (n : Int) (hn : n ≤ 9223372036854775807) (h : Two w0 w q S x R) : Calls Try.prog 22 #[.pointer (some ⟨x, 0, none⟩), .int .i64 n] w fun e w' => e = .returned (.tuple #[]) ∧ Two w0 w' q S x (R.setFuse n) := by
  obtain ⟨hf, hg, hq, hx, hb0, v, u, h1, h2, h3⟩ := h
  refine (rfuse_calls _ x u R n w h2).mono ?_
  rintro e w1 ⟨rfl, h', k⟩
  exact ⟨rfl, two_right hf hq hx hb0 h1 h2 h3 (fuse_fit hg n hn) h' k⟩
theorem two_write (a : Option Addr) (c : Nat) (p : List UInt8) (hp : Src w0 a p) (ha : ∀ ad, a = some ad → p ≠ [] → ad.block < w0.heap.size) (hz : a = none → c = 0) (hlen : p.length ≤ 140737488351232) (h : Two w0 w q S x R) :
    Calls Try.prog 10 #[.pointer (some ⟨q, 0, none⟩), .slice a p.length c] w fun e w' => e = .returned (.int .i64 (S.write p).2) ∧ Two w0 w' q (S.write p).1 x R := by
  obtain ⟨hf, hg, hq, hx, hb0, v, u, h1, h2, h3⟩ := h
  refine (write_calls _ q v S a c p w h1 hf (src_below hp ha hb0) (fun ad e hne => ?_) hz hlen hb0.size).mono ?_
  · have := ha ad e hne
    exact ⟨by omega, fun e' => by have := (h1.2.lt _ e'.symm).1; omega⟩
  · rintro e w1 ⟨rfl, v', h', k⟩
    exact ⟨rfl, two_left hg hq hx hb0 h1 h2 h3 (write_fit hf p) h' k⟩
theorem two_rwrite (a : Option Addr) (c : Nat) (p : List UInt8) (hp : Src w0 a p) (ha : ∀ ad, a = some ad → p ≠ [] → ad.block < w0.heap.size) (hz : a = none → c = 0) (hlen : p.length ≤ 140737488351232) (h : Two w0 w q S x R) :
    Calls Try.prog 18 #[.pointer (some ⟨x, 0, none⟩), .slice a p.length c] w fun e w' => e = .returned (.int .i64 (R.rwrite p).2) ∧ Two w0 w' q S x (R.rwrite p).1 := by
  obtain ⟨hf, hg, hq, hx, hb0, v, u, h1, h2, h3⟩ := h
  refine (rwrite_calls _ x u R a c p w h2 hg (src_below hp ha hb0) (fun ad e hne => ?_) hz hlen hb0.size).mono ?_
  · have := ha ad e hne
    exact ⟨by omega, fun e' => by have := (h2.2.lt _ e'.symm).1; omega⟩
  · rintro e w1 ⟨rfl, v', h', k⟩
    exact ⟨rfl, two_right hf hq hx hb0 h1 h2 h3 (rwrite_fit hg p) h' k⟩
theorem two_crash (n : Int) (h : Two w0 w q S x R) : Calls Try.prog 23 #[.pointer (some ⟨q, 0, none⟩), .int .i64 n] w fun e w' => ∃ q2, e = .returned (.pointer (some ⟨q2, 0, none⟩)) ∧ Two w0 w' q2 (S.crash n) x R := by
  obtain ⟨hf, hg, hq, hx, hb0, v, u, h1, h2, h3⟩ := h
  refine (crash_calls _ q v S n w h1 hf).mono ?_
  rintro e w1 ⟨q2, v', rfl, hq2, h', hb⟩
  refine ⟨q2, rfl, crash_fit hf n, hg, Nat.le_trans hb0.size hq2, hx, hb0.trans (hb.mono hb0.size), v', u, ⟨h'.1, own_base h'.2 hb0.size⟩, h2.below hb, fun g hg hu => ?_⟩
  have := (h'.2.lt g hg).1
  have := (h2.2.lt g hu).2
  omega
theorem two_rcrash (n : Int) (h : Two w0 w q S x R) : Calls Try.prog 24 #[.pointer (some ⟨x, 0, none⟩), .int .i64 n] w fun e w' => ∃ x2, e = .returned (.pointer (some ⟨x2, 0, none⟩)) ∧ Two w0 w' q S x2 (R.crash n) := by
  obtain ⟨hf, hg, hq, hx, hb0, v, u, h1, h2, h3⟩ := h
  refine (rcrash_calls _ x u R n w h2 hg).mono ?_
  rintro e w1 ⟨x2, u', rfl, hx2, h', hb⟩
  refine ⟨x2, rfl, hf, crash_fit hg n, hq, Nat.le_trans hb0.size hx2, hb0.trans (hb.mono hb0.size), v, u', h1.below hb, ⟨h'.1, own_base h'.2 hb0.size⟩, fun g hg hu => ?_⟩
  have := (h'.2.lt g hu).1
  have := (h1.2.lt g hg).2
  omega
theorem two_read (h : Two w0 w q S x R) : Calls Try.prog 11 #[.pointer (some ⟨q, 0, none⟩)] w fun e w' => ∃ a c, e = .returned (.slice a S.L.length c) ∧ w'.ownsRow w.heap.size 5 1 (.slice a S.L.length c) S.L.length (bys S.L) ∧ Two w0 w' q S x R ∧ Below w.heap.size w w' := by
  have hH := h
  obtain ⟨hf, hg, hq, hx, hb0, v, u, h1, h2, h3⟩ := h
  refine (read_calls _ q v S w h1 hf).mono ?_
  rintro e w1 ⟨a, c, rfl, ho, hb⟩
  exact ⟨a, c, rfl, ho, hH.below hb, hb⟩
theorem two_safe (h : Two w0 w q S x R) : Calls Try.prog 15 #[.pointer (some ⟨q, 0, none⟩)] w fun e w' => e = .returned (.int .i64 (S.safe : Int)) ∧ w = w' := by
  obtain ⟨hf, hg, hq, hx, hb0, v, u, h1, h2, h3⟩ := h
  exact safe_calls _ q v S w h1
/-- What is read of the answer's strip. -/
theorem two_cells (h : Two w0 w q S x R) : ∃ a c, w.cell? ⟨x, 0, none⟩ = some (.slice a R.L.length c) ∧ w.cell? ⟨x, 1, none⟩ = some (.int .i64 (R.safe : Int)) ∧ (convert 26 9 (.slice a R.L.length c)).run Try.prog w = .ok (.string ⟨R.L.toArray⟩) w := by
  obtain ⟨hf, hg, hq, hx, hb0, v, u, h1, h2, h3⟩ := h
  obtain ⟨a, c, rfl⟩ := own_shape h2.2
  exact ⟨a, c, h2.cells.1, h2.cells.2.1, str_of h2.2⟩
end
/-- The two go alike. -/
structure Alike (S R : St) : Prop where
  room : R.room = S.room
  L : R.L = S.L
  safe : R.safe = S.safe
  dead : R.dead = S.dead
  fuse : S.dead = false → R.fuse = S.fuse
theorem Alike.live {S R : St} (h : Alike S R) : R.live = S.live := by
  unfold St.live
  rw [h.dead]
  cases hd : S.dead with
  | true => rfl
  | false => rw [h.fuse hd]
theorem Alike.tick {S R : St} (h : Alike S R) (hf : S.Fit) : Alike S.tick R.rtick := by
  have h1 := h.fuse
  have h2 := h.dead
  have hlo := hf.lo
  have key : R.rtick.dead = S.tick.dead ∧ (S.tick.dead = false → R.rtick.fuse = S.tick.fuse) := by
    cases hd : S.dead with
    | true =>
      rw [hd] at h2
      have e1 : S.tick.dead = true := by simp [St.tick, hd]
      have e2 : R.rtick.dead = true := by
        unfold St.rtick
        by_cases hz : R.fuse = 0
        · rw [if_pos hz]
        · rw [if_neg hz]
          by_cases hp : 0 < R.fuse
          · rw [if_pos hp]
            exact h2
          · rw [if_neg hp]
            exact h2
      rw [e1, e2]
      exact ⟨rfl, fun e => by cases e⟩
    | false =>
      rw [hd] at h2
      have h1 := h1 hd
      by_cases hz : S.fuse = 0
      · have e1 : S.tick = { S with dead := true } := by simp [St.tick, hd, hz]
        have e2 : R.rtick = { R with dead := true } := by simp [St.rtick, h1, hz]
        rw [e1, e2]
        exact ⟨rfl, fun _ => h1⟩
      · by_cases hp : 0 < S.fuse
        · have e1 : S.tick = { S with fuse := S.fuse - 1 } := by simp [St.tick, hd, hz]; omega
          have e2 : R.rtick = { R with fuse := S.fuse - 1 } := by simp [St.rtick, h1, hz, hp]
          rw [e1, e2]
          exact ⟨h.dead, fun _ => rfl⟩
        · have e1 : S.tick = { S with fuse := -1 } := by simp [St.tick, hd, hz]; omega
          have e2 : R.rtick = R := by simp [St.rtick, h1, hz, hp]
          rw [e1, e2]
          exact ⟨h.dead, fun _ => by rw [h1]; show S.fuse = -1; omega⟩
  exact ⟨by rw [rtick_room, tick_room, h.room], by rw [rtick_L, tick_L, h.L], by rw [rtick_safe, tick_safe, h.safe], key.1, key.2⟩
theorem Alike.write {S R : St} (h : Alike S R) (hf : S.Fit) (p : List UInt8) : (R.rwrite p).2 = (S.write p).2 ∧ Alike (S.write p).1 (R.rwrite p).1 := by
  have ht := h.tick hf
  unfold St.rwrite St.write
  rw [h.live, h.room, h.L]
  split
  · exact ⟨rfl, ht⟩
  · split
    · exact ⟨rfl, ht⟩
    · exact ⟨rfl, ht.room, rfl, ht.safe, ht.dead, ht.fuse⟩
theorem Alike.sync {S R : St} (h : Alike S R) (hf : S.Fit) : R.rsync.2 = S.sync.2 ∧ Alike S.sync.1 R.rsync.1 := by
  have ht := h.tick hf
  unfold St.rsync St.sync
  rw [h.live, h.L]
  split
  · exact ⟨rfl, ht⟩
  · exact ⟨rfl, ht.room, ht.L, rfl, ht.dead, ht.fuse⟩
theorem Alike.cut {S R : St} (h : Alike S R) (hf : S.Fit) (n : Int) : (R.rcut n).2 = (S.cut n).2 ∧ Alike (S.cut n).1 (R.rcut n).1 := by
  have ht := h.tick hf
  unfold St.rcut St.cut
  rw [h.live, h.L, h.safe]
  split
  · exact ⟨rfl, ht⟩
  · split
    · exact ⟨rfl, ht⟩
    · exact ⟨rfl, ht.room, rfl, rfl, ht.dead, ht.fuse⟩
theorem Alike.setFuse {S R : St} (h : Alike S R) (n : Int) : Alike (S.setFuse n) (R.setFuse n) := ⟨h.room, h.L, h.safe, h.dead, fun _ => rfl⟩
theorem Alike.crash {S R : St} (h : Alike S R) (n : Int) : Alike (S.crash n) (R.crash n) := by
  have hk : R.kept n = S.kept n := by
    unfold St.kept
    rw [h.safe, h.L]
  refine ⟨h.room, ?_, hk, rfl, fun _ => rfl⟩
  simp only [St.crash]
  rw [hk, h.L]
theorem Alike.refl (S : St) : Alike S S := ⟨rfl, rfl, rfl, rfl, fun _ => rfl⟩
end Go.Proofs.Ytakpmnlakgkgpaa
