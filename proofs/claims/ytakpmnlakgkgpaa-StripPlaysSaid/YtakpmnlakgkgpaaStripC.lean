/- The program's strip behind a crash, walked; conditions: the strip lies in the world, its bytes in a row of its own. -/
import Derived.Test.YtakpmnlakgkgpaaStripB
namespace Go.Proofs.Ytakpmnlakgkgpaa
open Go.RowKit

theorem crash_nil (n : Int) (w : World) : Calls Try.prog 23 #[.pointer none, .int .i64 n] w fun e w' => e = .returned (.pointer none) ∧ w = w' := by
  go_enter Try.func23, Try.ntmps23
  go_wp2
  go_ret
  exact ⟨rfl, rfl⟩
/-- Behind New and Clone: the two stores. -/
theorem crash_after {w w2 w3 : World} {q2 : Nat} {rv : Value} {S : St} {keep : Int} (h2 : SAt w2 w.heap.size q2 (.slice none 0 0) (St.new (S.room : Int))) (hr : S.room ≤ 65536) (hb2 : Below w.heap.size w w2)
    (hown : w3.ownsRow w2.heap.size 5 1 rv (S.L.take (S.kept keep)).length (bys (S.L.take (S.kept keep)))) (hb3 : Below w2.heap.size w2 w3) (hq : w.heap.size ≤ q2) :
    SAt ((w3.setCell ⟨q2, 1, none⟩ rv).setCell ⟨q2, 2, none⟩ (.int .i64 (S.kept keep : Int))) w.heap.size q2 rv (S.crash keep) ∧ Below w.heap.size w ((w3.setCell ⟨q2, 1, none⟩ rv).setCell ⟨q2, 2, none⟩ (.int .i64 (S.kept keep : Int))) ∧
    w3.cell? ⟨q2, 1, none⟩ = some (.slice none 0 0) ∧ w3.frozen? ⟨q2, 1, none⟩ = false ∧ (w3.setCell ⟨q2, 1, none⟩ rv).cell? ⟨q2, 2, none⟩ = some (.int .i64 0) ∧ (w3.setCell ⟨q2, 1, none⟩ rv).frozen? ⟨q2, 2, none⟩ = false := by
  have hq3 : w3.heap[q2]? = some (.cells #[.int .i64 (S.room : Int), .slice none 0 0, .int .i64 0, .bool false, .int .i64 (-1)] 48 (0, 0)) := by
    rw [hb3.block q2 h2.lt]
    have := h2.1
    simpa [St.new, Nat.min_eq_left hr] using this
  have hq4 := blk_set hq3 1 rv
  refine ⟨⟨?_, ?_⟩, ?_, cell_of hq3 1, free_of hq3 1, by rw [cell_of hq4 2]; rfl, free_of hq4 2⟩
  · rw [blk_set hq4 2]
    simp [St.crash]
  · refine own_stay (own_base hown hb2.size) fun g hg => ?_
    have hne : g ≠ q2 := by
      have := (hown.lt g hg).1
      have := h2.lt
      omega
    rw [set_other _ _ _ _ hne, set_other _ _ _ _ hne]
  · exact ((hb2.trans (hb3.mono hb2.size)).setCell (by exact hq) _).setCell (by exact hq) _
set_option maxHeartbeats 1000000 in
theorem crash_calls (N q : Nat) (v : Value) (S : St) (keep : Int) (w : World) (h : SAt w N q v S) (hf : S.Fit) :
    Calls Try.prog 23 #[.pointer (some ⟨q, 0, none⟩), .int .i64 keep] w fun e w' => ∃ q2 v', e = .returned (.pointer (some ⟨q2, 0, none⟩)) ∧ w.heap.size ≤ q2 ∧ SAt w' w.heap.size q2 v' (S.crash keep) ∧ Below w.heap.size w w' := by
  have hle := hf.len
  have hrm := hf.room
  have hsf := hf.safe
  obtain ⟨ao, cp, hv⟩ := own_shape h.2
  obtain ⟨c0, c1, c2, c3, c4⟩ := h.cells
  rw [hv] at c1
  have hown := h.2
  rw [hv] at hown
  have HSRC := Lib.hid (own_src hown)
  have hcap : S.L.length ≤ cp := by
    rcases hown.2 with ⟨e, h0⟩ | ⟨g, cap, cur, e, _, _, h1, _⟩
    · omega
    · injection e with _ _ e3
      subst e3
      exact h1
  have hlq := h.lt
  have HST : Hid (∀ w' : World, Below w.heap.size w w' → w'.cell? ⟨q, 0, none⟩ = w.cell? ⟨q, 0, none⟩ ∧ w'.cell? ⟨q, 1, none⟩ = w.cell? ⟨q, 1, none⟩) := Lib.hid fun w' hb => ⟨hb.cell (p := ⟨q, 0, none⟩) hlq, hb.cell (p := ⟨q, 1, none⟩) hlq⟩
  clear hown hv h c3 c4
  rcases (show keep < 0 ∨ (0 ≤ keep ∧ keep ≤ (S.L.length : Int) - S.safe) ∨ (0 ≤ keep ∧ (S.L.length : Int) - S.safe < keep) by omega) with hk | ⟨hk0, hk⟩ | ⟨hk0, hk⟩
  · have HK : Hid (S.kept keep = S.safe) := Lib.hid (by unfold St.kept; omega)
    go_enter Try.func23, Try.ntmps23
    go_wp2_with fail
    go_quiet (fail)
    go_wp2_with fail
    refine (new_calls _ _).mono ?_
    rintro e w2 ⟨rfl, h2, hb2⟩
    have hbw : Below w.heap.size w w2 := (below_drewN (Below.refl _ _) nq).trans hb2
    have h2' : SAt w2 w.heap.size w.heap.size (.slice none 0 0) (St.new (S.room : Int)) := h2
    obtain ⟨d0, d1⟩ := HST.out w2 hbw
    rw [c0] at d0
    rw [c1] at d1
    have HS2 : Hid (Src w2 ao (S.L.take S.safe)) := Lib.hid ((HSRC.out.take S.safe).mono (fun ad j u e _ hc => by
      rw [hbw.cell (lt_of_cell hc)]
      exact hc))
    have HB2 := Lib.hid (And.intro h2' hbw)
    have hlen : (S.L.take S.safe).length = S.safe := by rw [List.length_take]; omega
    have HLEN := Lib.hid hlen
    clear h2 h2' hb2 hbw hlen
    go_wp2_with fail
    refine (clone_calls ao S.safe cp (S.L.take S.safe) w2 HLEN.out HS2.out (by rw [HLEN.out]; omega)).mono ?_
    rintro e w3 ⟨rv, rfl, hown, hb3⟩
    have hshape := own_shape hown
    have HC := crash_after (keep := keep) HB2.out.1 hrm HB2.out.2 (by rw [HK.out]; exact hown) hb3 (Nat.le_refl _)
    obtain ⟨a3, c3, hrv⟩ := hshape
    rw [HLEN.out] at hrv
    rw [HK.out, hrv] at HC
    obtain ⟨hA, hB, e1, e2, e3, e4⟩ := HC
    have HA := Lib.hid (And.intro hA hB)
    rw [hrv]
    clear hown hb3 hA hB hrv d0 d1 c0 c1 c2
    go_wp2_with fail
    go_ret
    exact ⟨w.heap.size, _, rfl, Nat.le_refl _, HA.out.1, HA.out.2⟩
  · obtain ⟨m, rfl⟩ := Int.eq_ofNat_of_zero_le hk0
    have HK : Hid (S.kept (m : Int) = S.safe + m) := Lib.hid (by unfold St.kept; omega)
    go_enter Try.func23, Try.ntmps23
    go_wp2_with fail
    go_quiet (fail)
    go_wp2_with fail
    rw [show (S.safe : Int) + (m : Int) = ((S.safe + m : Nat) : Int) from by omega]
    refine (new_calls _ _).mono ?_
    rintro e w2 ⟨rfl, h2, hb2⟩
    have hbw : Below w.heap.size w w2 := (below_drewN (Below.refl _ _) nq).trans hb2
    have h2' : SAt w2 w.heap.size w.heap.size (.slice none 0 0) (St.new (S.room : Int)) := h2
    obtain ⟨d0, d1⟩ := HST.out w2 hbw
    rw [c0] at d0
    rw [c1] at d1
    have HS2 : Hid (Src w2 ao (S.L.take (S.safe + m))) := Lib.hid ((HSRC.out.take (S.safe + m)).mono (fun ad j u e _ hc => by
      rw [hbw.cell (lt_of_cell hc)]
      exact hc))
    have HB2 := Lib.hid (And.intro h2' hbw)
    have hlen : (S.L.take (S.safe + m)).length = (S.safe + m) := by rw [List.length_take]; omega
    have HLEN := Lib.hid hlen
    clear h2 h2' hb2 hbw hlen
    go_wp2_with fail
    refine (clone_calls ao (S.safe + m) cp (S.L.take (S.safe + m)) w2 HLEN.out HS2.out (by rw [HLEN.out]; omega)).mono ?_
    rintro e w3 ⟨rv, rfl, hown, hb3⟩
    have hshape := own_shape hown
    have HC := crash_after (keep := (m : Int)) HB2.out.1 hrm HB2.out.2 (by rw [HK.out]; exact hown) hb3 (Nat.le_refl _)
    obtain ⟨a3, c3, hrv⟩ := hshape
    rw [HLEN.out] at hrv
    rw [HK.out, hrv] at HC
    obtain ⟨hA, hB, e1, e2, e3, e4⟩ := HC
    have HA := Lib.hid (And.intro hA hB)
    rw [hrv]
    clear hown hb3 hA hB hrv d0 d1 c0 c1 c2
    go_wp2_with fail
    go_ret
    exact ⟨w.heap.size, _, rfl, Nat.le_refl _, HA.out.1, HA.out.2⟩
  · have HK : Hid (S.kept keep = S.L.length) := Lib.hid (by unfold St.kept; omega)
    go_enter Try.func23, Try.ntmps23
    go_wp2_with fail
    go_quiet (fail)
    go_wp2_with fail
    rw [show (S.safe : Int) + ((S.L.length : Int) - (S.safe : Int)) = (S.L.length : Int) from by omega]
    refine (new_calls _ _).mono ?_
    rintro e w2 ⟨rfl, h2, hb2⟩
    have hbw : Below w.heap.size w w2 := (below_drewN (Below.refl _ _) nq).trans hb2
    have h2' : SAt w2 w.heap.size w.heap.size (.slice none 0 0) (St.new (S.room : Int)) := h2
    obtain ⟨d0, d1⟩ := HST.out w2 hbw
    rw [c0] at d0
    rw [c1] at d1
    have HS2 : Hid (Src w2 ao (S.L.take S.L.length)) := Lib.hid ((HSRC.out.take S.L.length).mono (fun ad j u e _ hc => by
      rw [hbw.cell (lt_of_cell hc)]
      exact hc))
    have HB2 := Lib.hid (And.intro h2' hbw)
    have hlen : (S.L.take S.L.length).length = S.L.length := by rw [List.length_take]; omega
    have HLEN := Lib.hid hlen
    clear h2 h2' hb2 hbw hlen
    go_wp2_with fail
    refine (clone_calls ao S.L.length cp (S.L.take S.L.length) w2 HLEN.out HS2.out (by rw [HLEN.out]; omega)).mono ?_
    rintro e w3 ⟨rv, rfl, hown, hb3⟩
    have hshape := own_shape hown
    have HC := crash_after (keep := keep) HB2.out.1 hrm HB2.out.2 (by rw [HK.out]; exact hown) hb3 (Nat.le_refl _)
    obtain ⟨a3, c3, hrv⟩ := hshape
    rw [HLEN.out] at hrv
    rw [HK.out, hrv] at HC
    obtain ⟨hA, hB, e1, e2, e3, e4⟩ := HC
    have HA := Lib.hid (And.intro hA hB)
    rw [hrv]
    clear hown hb3 hA hB hrv d0 d1 c0 c1 c2
    go_wp2_with fail
    go_ret
    exact ⟨w.heap.size, _, rfl, Nat.le_refl _, HA.out.1, HA.out.2⟩
end Go.Proofs.Ytakpmnlakgkgpaa
