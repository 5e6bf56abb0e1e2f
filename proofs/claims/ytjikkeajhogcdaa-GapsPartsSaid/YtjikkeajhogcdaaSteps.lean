/- gaps.steps, walked: the sorted numbers at which something may end; conditions: the boxes and the whole lie in the world, each has the side, and no box ends above 1000. -/
import Derived.Test.YtjikkeajhogcdaaBase
import Derived.Test.YtjikkeajhogcdaaPGapsTellsx0
namespace Go.Proofs.Ytjikkeajhogcdaa
open Go.RowKit Go.Proofs.YtjikkeajhogcdaaW.PrintWords Go.Proofs.YtjikkeajhogcdaaW.PrintLast Go.Proofs.YtjikkeajhogcdaaW.PrintMore PGapsTells
/-- A number of a side. -/
def at_ (l : List Int) (d : Nat) : Int := l.getD d 0
def cand (l : List S25) (lo hi : List Int) (d : Nat) : List Int := at_ lo d :: l.filterMap fun b => if at_ lo d < at_ b.f1 d + 1 ∧ at_ b.f1 d + 1 ≤ at_ hi d then some (at_ b.f1 d + 1) else none
def stepsF (l : List S25) (lo hi : List Int) (d : Nat) : List Int := Lib.compact ((cand l lo hi d).mergeSort fun x y => decide (x ≤ y))
theorem int_at {w : World} {A : Option Addr} {l : List Int} {d : Nat} (h : Kd.C (Kd.int .i64) w A l.length l) (hd : d < l.length) : ∃ ad, A = some ad ∧ w.cell? (ad.add d) = some (.int .i64 (at_ l d)) := by
  obtain ⟨ad, c, rfl, _, hK, hc⟩ := Kd.C_get h (0 : Int) (d : Int) (by omega) (by omega)
  refine ⟨ad, rfl, ?_⟩
  have h0 : c = [.int .i64 (l.getD (d : Int).toNat 0)] := hK
  subst h0
  have := hc 0 _ rfl
  have hsz : (Kd.int .i64).sz = 1 := rfl
  rw [hsz] at this
  simpa [at_] using this
/-- What a walk reads of box i. -/
theorem box_at {w : World} {A : Option Addr} {l : List S25} {i : Nat} (h : Kd.C k25 w A l.length l) (hi : i < l.length) :
    ∃ ad A0 c0 A1 c1, A = some ad ∧ ad.block < w.heap.size ∧ w.cell? (ad.add (i * 2)) = some (.slice A0 (l[i]).f0.length c0) ∧ w.cell? ⟨(ad.add (i * 2)).block, (ad.add (i * 2)).off + 1, none⟩ = some (.slice A1 (l[i]).f1.length c1) ∧ (l[i]).f0.length ≤ c0 ∧ Kd.C (Kd.int .i64) w A0 (l[i]).f0.length (l[i]).f0 ∧ (l[i]).f1.length ≤ c1 ∧ Kd.C (Kd.int .i64) w A1 (l[i]).f1.length (l[i]).f1 := by
  obtain ⟨ad, A0, c0, A1, c1, e, h0, h1, l0, g0, l1, g1⟩ := at_T25 h (i : Int) (by omega) (by omega)
  have hr : rd_T25 l (i : Int) = l[i] := by simp [rd_T25, List.getD, hi]
  rw [hr] at h0 h1 l0 g0 l1 g1
  simp only [Int.toNat_natCast] at h0 h1
  have hb := lt_of_cell h0
  rw [add_block] at hb
  exact ⟨ad, A0, c0, A1, c1, e, hb, h0, h1, l0, g0, l1, g1⟩
/-- The candidates of the boxes ahead of k. -/
def candK (l : List S25) (lo hi : List Int) (d k : Nat) : List Int := cand (l.take k) lo hi d
theorem candK_zero (l : List S25) (lo hi : List Int) (d : Nat) : candK l lo hi d 0 = [at_ lo d] := rfl
theorem candK_len (l : List S25) (lo hi : List Int) (d k : Nat) : (candK l lo hi d k).length ≤ k + 1 := by
  unfold candK cand
  have := List.length_filterMap_le (fun b : S25 => if at_ lo d < at_ b.f1 d + 1 ∧ at_ b.f1 d + 1 ≤ at_ hi d then some (at_ b.f1 d + 1) else none) (l.take k)
  rw [List.length_take] at this
  simp only [List.length_cons]
  omega
theorem candK_step (l : List S25) (lo hi : List Int) (d k : Nat) (h : k < l.length) : candK l lo hi d (k + 1) = candK l lo hi d k ++ (if at_ lo d < at_ (l[k]).f1 d + 1 ∧ at_ (l[k]).f1 d + 1 ≤ at_ hi d then [at_ (l[k]).f1 d + 1] else []) := by
  unfold candK cand
  rw [List.take_add_one, List.getElem?_eq_getElem h]
  simp only [Option.toList_some, List.filterMap_append, List.cons_append, List.filterMap_cons, List.filterMap_nil]
  by_cases hc : at_ lo d < at_ (l[k]).f1 d + 1 ∧ at_ (l[k]).f1 d + 1 ≤ at_ hi d
  · simp only [if_pos hc]
  · simp only [if_neg hc]
theorem candK_all (l : List S25) (lo hi : List Int) (d : Nat) : candK l lo hi d l.length = cand l lo hi d := by
  unfold candK
  rw [List.take_length]
set_option maxHeartbeats 2000000 in
theorem steps_calls (A : Option Addr) (c : Nat) (l : List S25) (A0 : Option Addr) (c0 : Nat) (lo : List Int) (A1 : Option Addr) (c1 : Nat) (hi : List Int) (d : Nat) (w : World)
    (hl : Kd.C k25 w A l.length l) (h0 : Kd.C (Kd.int .i64) w A0 lo.length lo) (h1 : Kd.C (Kd.int .i64) w A1 hi.length hi) (hd0 : d < lo.length) (hd1 : d < hi.length) (hn : l.length ≤ 8) (hb : ∀ i (h : i < l.length), d < (l[i]).f1.length ∧ -1000 ≤ at_ (l[i]).f1 d ∧ at_ (l[i]).f1 d ≤ 1000) :
    Calls Try.prog 25 #[.slice A l.length c, .agg #[.slice A0 lo.length c0, .slice A1 hi.length c1], .int .i64 (d : Int)] w fun e w' => ∃ v, e = .returned v ∧ w'.ownsRow w.heap.size 3 1 v (stepsF l lo hi d).length (zs (stepsF l lo hi d)) ∧ Below w.heap.size w w' := by
  obtain ⟨i0, hi0, hz0, hz1, hz2⟩ := info_parts info3
  obtain ⟨W1, hW1⟩ : ∃ W1, w.alloc (.cells #[.slice A0 lo.length c0, .slice A1 hi.length c1] 25) = W1 := ⟨_, rfl⟩
  have hbW : Below w.heap.size w W1 := by rw [← hW1]; exact (Below.refl _ _).alloc (Nat.le_refl _) _
  obtain ⟨ad0, rfl, hlo⟩ := int_at h0 hd0
  obtain ⟨ad1, rfl, hhi⟩ := int_at h1 hd1
  have hs1 : W1.heap.size = w.heap.size + 1 := by rw [← hW1]; simp
  have k0 : W1.cell? ⟨w.heap.size, 0, none⟩ = some (.slice (some ad0) lo.length c0) := by rw [← hW1]; exact cell_of (heap_alloc_new w _) 0
  have k1 : W1.cell? ⟨w.heap.size, 1, none⟩ = some (.slice (some ad1) hi.length c1) := by rw [← hW1]; exact cell_of (heap_alloc_new w _) 1
  have HC : Hid (∀ w', Below W1.heap.size W1 w' → w'.cell? ⟨w.heap.size, 0, none⟩ = some (.slice (some ad0) lo.length c0) ∧ w'.cell? ⟨w.heap.size, 1, none⟩ = some (.slice (some ad1) hi.length c1) ∧ w'.cell? (ad0.add d) = some (.int .i64 (at_ lo d)) ∧ w'.cell? (ad1.add d) = some (.int .i64 (at_ hi d))) := Lib.hid fun w' hb' =>
    ⟨cell_below hb' (lt_of_cell k0) k0, cell_below hb' (lt_of_cell k1) k1, cell_below hb' (by have := lt_of_cell hlo; omega) ((hbW.cell (lt_of_cell hlo)).trans hlo), cell_below hb' (by have := lt_of_cell hhi; omega) ((hbW.cell (lt_of_cell hhi)).trans hhi)⟩
  have HB : Hid (∀ k (h : k < l.length), ∃ ad B0 b0 B1 b1 ad2, A = some ad ∧ B1 = some ad2 ∧ ∀ w', Below W1.heap.size W1 w' → w'.cell? (ad.add (k * 2)) = some (.slice B0 (l[k]).f0.length b0) ∧ w'.cell? ⟨(ad.add (k * 2)).block, (ad.add (k * 2)).off + 1, none⟩ = some (.slice B1 (l[k]).f1.length b1) ∧ w'.cell? (ad2.add d) = some (.int .i64 (at_ (l[k]).f1 d))) := Lib.hid fun k hk => by
    obtain ⟨ad, B0, b0, B1, b1, e, _, e0, e1, _, _, _, g1⟩ := box_at hl hk
    obtain ⟨ad2, e2, e3⟩ := int_at g1 (hb k hk).1
    exact ⟨ad, B0, b0, B1, b1, ad2, e, e2, fun w' hb' => ⟨cell_below hb' (by have := lt_of_cell e0; omega) ((hbW.cell (lt_of_cell e0)).trans e0), cell_below hb' (by have := lt_of_cell e1; omega) ((hbW.cell (lt_of_cell e1)).trans e1), cell_below hb' (by have := lt_of_cell e3; omega) ((hbW.cell (lt_of_cell e3)).trans e3)⟩⟩
  have HBD := Lib.hid hb
  have HBW := Lib.hid hbW
  obtain ⟨r0, r1, r2, r3⟩ := HC.out W1 (Below.refl _ _)
  have hWs : w.heap.size < W1.heap.size := by omega
  clear hl h0 h1 hlo hhi hb hbW k0 k1
  go_enter Try.func25, Try.ntmps25
  go_wp2_with fail
  have hown0 : (W1.alloc (.cells #[.int .i64 (at_ lo d)] 3)).ownsRow W1.heap.size 3 1 (.slice (some ⟨w.heap.size + 1, 0, none⟩) 1 1) 1 (zs (candK l lo hi d 0)) := by
    rw [← hs1]
    exact ⟨rfl, .inr ⟨W1.heap.size, 1, _, rfl, Nat.le_refl _, heap_alloc_new _ _, Nat.le_refl _, by unfold maxLen; omega, rfl, rfl⟩⟩
  have HO0 := Lib.hid hown0
  clear hown0 r0 r1 r2 r3
  go_loopg [7, 19] l.length (fun g out i wr => ∃ k, k ≤ l.length ∧ g + k = l.length ∧ i = .int .i64 k ∧ Below W1.heap.size W1 wr ∧ out ≠ .slice none 0 0 ∧ wr.ownsRow W1.heap.size 3 1 out (candK l lo hi d k).length (zs (candK l lo hi d k)))
  case atStart => exact ⟨0, Nat.zero_le _, rfl, rfl, (Below.refl _ _).alloc (Nat.le_refl _) _, by simp, HO0.out⟩
  case round =>
    obtain ⟨k, hk, hg, rfl, hbr, hne, hown⟩ := hrel
    have HG := Lib.hid hg
    have HBR := Lib.hid hbr
    have HO := Lib.hid hown
    clear hg
    by_cases hlt : k < l.length
    · obtain ⟨ad, B0, b0, B1, b1, ad2, rfl, rfl, hbox⟩ := HB.out k hlt
      obtain ⟨hd2, hx1, hx2⟩ := HBD.out k hlt
      have hst := candK_step l lo hi d k hlt
      generalize at_ l[k].f1 d = x at *
      generalize l[k].f1.length = xl at *
      generalize l[k].f0.length = yl at *
      have hbr2 := hbr.alloc hbr.size (.cells #[.slice B0 yl b0, .slice (some ad2) xl b1] 25)
      have HBR2 := Lib.hid hbr2
      obtain ⟨q0, q1, q2⟩ := hbox _ hbr
      obtain ⟨q0', q1', q2'⟩ := hbox _ hbr2
      obtain ⟨r0, r1, r2, r3⟩ := HC.out _ hbr2
      have HST := Lib.hid hst
      obtain ⟨n, hn'⟩ : ∃ n, (candK l lo hi d k).length = n := ⟨_, rfl⟩
      have hnk : n ≤ k + 1 := by have := candK_len l lo hi d k; omega
      have HN := Lib.hid hn'
      have hown2 : (wr.alloc (.cells #[.slice B0 yl b0, .slice (some ad2) xl b1] 25)).ownsRow W1.heap.size 3 1 u7 n (zs (candK l lo hi d k)) := by rw [← hn']; exact hown.alloc _
      have HO2 := Lib.hid hown2
      have HNE := Lib.hid hne
      clear hbr hbr2 hbox q0' q1' hst hown hn' hown2 hne HO
      by_cases hc1 : at_ lo d < x + 1
      · by_cases hc2 : x + 1 ≤ at_ hi d
        · have HNW : Hid (∀ (j : Nat) (u : Value), [Value.int .i64 (x + 1)][j]? = some u → ((wr.alloc (.cells #[.slice B0 yl b0, .slice (some ad2) xl b1] 25)).alloc (.cells #[.int .i64 (x + 1)] 3)).cell? ((⟨wr.heap.size + 1, 0, none⟩ : Addr).add j) = some u) := Lib.hid (by have := cell_one_new (wr.alloc (.cells #[.slice B0 yl b0, .slice (some ad2) xl b1] 25)) (.int .i64 (x + 1)) 3; simpa using this)
          go_wp2_with (at_builtin; refine wpList_append_own_at _ rfl _ _ 22 rfl W1.heap.size 3 i0 (.int .i64 0) 1 8 Try.underlying22 hi0 hz0 hz1 hz2 rfl (by decide) _ _ _ rfl (HO2.out.alloc _) ⟨wr.heap.size + 1, 0, none⟩ 1 1 [.int .i64 (x + 1)] rfl rfl HNW.out (by simp [Value.oneCell']) (by unfold maxLen; omega) (by omega) (by have := HBR2.out.size; simp at this ⊢; omega) ?_; intro v' w2 hown' hgr hiff hat; have HS := Lib.hid (And.intro hown' (And.intro hgr hiff)); clear hown' hgr hiff hat)
          go_roundg (l.length - (k + 1))
          case rel =>
            refine ⟨k + 1, by omega, by omega, by go_num, ?_, ?_, ?_⟩
            · exact below_only (HBR2.out.alloc HBR2.out.size _) HS.out.2.1 (fun i e => (HO2.out.lt i e).1) (by have := HBR2.out.size; simp at this ⊢; omega)
            · exact fun e => HNE.out (HS.out.2.2.1 e).1
            · have := HS.out.1
              rw [HST.out, if_pos ⟨hc1, hc2⟩]
              simp only [List.length_append, HN.out]
              simpa [zs] using this
          case measure => have := HG.out; omega
        · go_wp2_with fail
          go_roundg (l.length - (k + 1))
          case rel =>
            refine ⟨k + 1, by omega, by omega, by go_num, HBR2.out, HNE.out, ?_⟩
            rw [HST.out, if_neg (by omega), List.append_nil, HN.out]
            exact HO2.out
          case measure => have := HG.out; omega
      · go_wp2_with fail
        go_roundg (l.length - (k + 1))
        case rel =>
          refine ⟨k + 1, by omega, by omega, by go_num, HBR2.out, HNE.out, ?_⟩
          rw [HST.out, if_neg (by omega), List.append_nil, HN.out]
          exact HO2.out
        case measure => have := HG.out; omega
    · obtain rfl : k = l.length := by omega
      rw [candK_all] at hown
      have hcl := candK_len l lo hi d l.length
      rw [candK_all] at hcl
      obtain ⟨g, cap, rfl⟩ : ∃ g cap, u7 = Value.slice (some ⟨g, 0, none⟩) (cand l lo hi d).length cap := by
        rcases hown.2 with ⟨e, _⟩ | ⟨g, cap, cur, e, _⟩
        · exact absurd e hne
        · exact ⟨g, cap, e⟩
      have HO := Lib.hid hown
      have HCL := Lib.hid hcl
      have HS1 := Lib.hid hs1
      clear hbr hne hown hcl hs1
      go_wp2_with fail
      refine (sort_calls HBR.out HO.out (by have := HCL.out; omega)).mono ?_
      rintro e w2 ⟨rfl, ho2, hb2⟩
      have H2 := Lib.hid (And.intro ho2 hb2)
      clear ho2 hb2
      go_wp2_with fail
      have hlen : (cand l lo hi d).length = ((cand l lo hi d).mergeSort fun x y => decide (x ≤ y)).length := by simp
      refine (compact_calls H2.out.2 H2.out.1 (by have := HCL.out; omega)).mono ?_
      rintro e w3 ⟨rfl, ho3, hb3⟩
      have H3 := Lib.hid (And.intro ho3 hb3)
      clear ho3 hb3 hlen
      go_wp2_with fail
      go_ret
      exact ⟨_, rfl, own_base H3.out.1 (by have := HS1.out; omega), HBW.out.trans (H3.out.2.mono (by have := HS1.out; omega))⟩
end Go.Proofs.Ytjikkeajhogcdaa
