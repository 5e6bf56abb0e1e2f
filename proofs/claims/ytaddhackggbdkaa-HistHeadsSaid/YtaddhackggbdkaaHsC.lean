/- Texts cut into tokens, a reader of tokens: the document's answers come to an end. Conditions stand in each part's own head. -/
import Derived.Test.YtaddhackggbdkaaHsB
import Derived.Maps.AppendAt
/-! A text cut into tokens: the document's answer comes to an end; no condition. -/
namespace Go.Proofs.Ytaddhackggbdkaa
open Go.RowKit
open Go.Proofs.YtaddhackggbdkaaW.PrintWords (results_ctt)
set_option maxRecDepth 100000
/-- A token, where it ends, an error; where there is none, the token ends behind its begin, and within the text. -/
def RetT (a n : Nat) (e : Ending) : Prop := ∃ k t p q x, e = .returned (.tuple #[.agg #[.int .i64 k, .string t, .int .i64 p], .int .i64 q, .int .i64 x]) ∧ t.size ≤ 200 ∧ (x = 0 → ∃ j : Nat, q = j ∧ a < j ∧ j ≤ n)
theorem put3 {w : World} {g : Nat} {t : TypeId} {x y z : Value} (h : w.heap[g]? = some (.cells #[x, y, z] t (0, 0))) (u v r : Value) : (((w.setCell ⟨g, 0, none⟩ u).setCell ⟨g, 1, none⟩ v).setCell ⟨g, 2, none⟩ r).heap[g]? = some (.cells #[u, v, r] t (0, 0)) := by
  simpa using blk_set (blk_set (blk_set h 0 u) 1 v) 2 r
theorem far3 {w : World} {g b j : Nat} {u x y r : Value} (h : w.cell? ⟨b, j, none⟩ = some u) (hne : b ≠ g) : (((w.setCell ⟨g, 0, none⟩ x).setCell ⟨g, 1, none⟩ y).setCell ⟨g, 2, none⟩ r).drew.cell? ⟨b, j, none⟩ = some u := by
  have e : (((w.setCell ⟨g, 0, none⟩ x).setCell ⟨g, 1, none⟩ y).setCell ⟨g, 2, none⟩ r).drew.heap[b]? = w.heap[b]? := by
    show (((w.setCell ⟨g, 0, none⟩ x).setCell ⟨g, 1, none⟩ y).setCell ⟨g, 2, none⟩ r).heap[b]? = _
    rw [set_other _ _ _ _ hne, set_other _ _ _ _ hne, set_other _ _ _ _ hne]
  unfold World.cell?
  rw [e]
  exact h
set_option maxHeartbeats 2000000 in
theorem next_any (s : ByteArray) (hs : s.size ≤ 200) (a : Nat) (ha : a < s.size) (w : World) : Calls Try.prog 69 #[.string s, .int .i64 a] w fun e w' => RetT a s.size e ∧ Below w.heap.size w w' := by
  obtain ⟨W1, hW1⟩ : ∃ W1, w.alloc (.cells #[.int .i64 0, .string ⟨#[]⟩, .int .i64 0] 124) = W1 := ⟨_, rfl⟩
  have hB1 : Below w.heap.size w W1 := by rw [← hW1]; go_grown
  have hH1 : W1.heap[w.heap.size]? = some (.cells #[.int .i64 0, .string ⟨#[]⟩, .int .i64 0] 124 (0, 0)) := by rw [← hW1]; exact heap_alloc_new w _
  have HB1 := Lib.hid hB1
  have HH1 := Lib.hid hH1
  have c0 := cell_of hH1 0
  have c1 := cell_of hH1 1
  have c2 := cell_of hH1 2
  have f0 := free_of hH1 0
  have f1 := free_of hH1 1
  have f2 := free_of hH1 2
  clear hB1 hH1
  go_enter Try.func69, Try.ntmps69
  go_wp2_with fail
  refine (letter_is _ _).mono ?_
  rintro e W1 ⟨rfl, rfl⟩
  cases hL : letF ((s[a].toNat : Nat) : Int)
  · go_wp2_with fail
    refine (digit_is _ _).mono ?_
    rintro e W1 ⟨rfl, rfl⟩
    cases hD0 : digF ((s[a].toNat : Nat) : Int)
    · go_wp2_with fail
      · rename (((s[a].toNat : Nat) : Int) == 34) = true => hq
        obtain ⟨a1, ha1⟩ : ∃ a1 : Nat, (a : Int) + 1 = (a1 : Int) := ⟨a + 1, rfl⟩
        simp only [hq, ha1]
        clear hq
        go_loopg [7] s.size (fun g v wr => ∃ j : Nat, a < j ∧ s.size ≤ g + j ∧ j ≤ s.size ∧ v = .int .i64 j ∧ W1 = wr)
        case atStart => exact ⟨a1, by omega, by omega, by omega, rfl, rfl⟩
        case round =>
          obtain ⟨j, haj, hg, hjs, rfl, rfl⟩ := hrel
          have haj2 : a1 ≤ j := by omega
          by_cases hlt : j < s.size
          · go_wp2_with fail
            all_goals first
            | (refine bodyPost_ret (results_ctt rfl _ _ w.heap.size 124 _ (0, 0) _ rfl (put3 HH1.out _ _ _) Try.underlying124 rfl (by kernel_rfl)) rfl ?_; have hb := HB1.out; exact ⟨⟨_, _, _, _, _, rfl, by first | (rw [ByteArray.size_extract]; omega) | decide, fun h => by first | exact ⟨_, rfl, by omega, by omega⟩ | exact ⟨j + 1, by first | rfl | go_num, by omega, by omega⟩ | (exfalso; omega)⟩, by go_grown⟩)
            | (go_roundg (s.size - (j + 1))
               case rel => exact ⟨j + 1, by omega, by omega, by omega, by first | rfl | rw [w64 (by omega) (by omega)], rfl⟩
               case measure => omega)
          · go_wp2_with fail
            all_goals (refine bodyPost_ret (results_ctt rfl _ _ w.heap.size 124 _ (0, 0) _ rfl (put3 HH1.out _ _ _) Try.underlying124 rfl (by kernel_rfl)) rfl ?_; have hb := HB1.out; exact ⟨⟨_, _, _, _, _, rfl, by first | (rw [ByteArray.size_extract]; omega) | decide, fun h => by first | exact ⟨_, rfl, by omega, by omega⟩ | exact ⟨j + 1, by first | rfl | go_num, by omega, by omega⟩ | (exfalso; omega)⟩, by go_grown⟩)
      · rename (((s[a].toNat : Nat) : Int) == 34) = false => hq
        simp only [hq]
        clear hq
        obtain ⟨W2, hW2⟩ : ∃ W2, W1.alloc (.cells #[.string ⟨#[60, 61]⟩, .string ⟨#[62, 61]⟩, .string ⟨#[33, 61]⟩, .string ⟨#[46, 46]⟩, .string ⟨#[60]⟩, .string ⟨#[62]⟩, .string ⟨#[61]⟩, .string ⟨#[43]⟩, .string ⟨#[45]⟩, .string ⟨#[42]⟩, .string ⟨#[47]⟩, .string ⟨#[40]⟩, .string ⟨#[41]⟩, .string ⟨#[91]⟩, .string ⟨#[93]⟩, .string ⟨#[44]⟩] 9) = W2 := ⟨_, rfl⟩
        rw [hW2]
        have hh2 : W2.heap[W1.heap.size]? = some (.cells #[.string ⟨#[60, 61]⟩, .string ⟨#[62, 61]⟩, .string ⟨#[33, 61]⟩, .string ⟨#[46, 46]⟩, .string ⟨#[60]⟩, .string ⟨#[62]⟩, .string ⟨#[61]⟩, .string ⟨#[43]⟩, .string ⟨#[45]⟩, .string ⟨#[42]⟩, .string ⟨#[47]⟩, .string ⟨#[40]⟩, .string ⟨#[41]⟩, .string ⟨#[91]⟩, .string ⟨#[93]⟩, .string ⟨#[44]⟩] 9 (0, 0)) := by rw [← hW2]; exact heap_alloc_new W1 _
        have hb2 : Below W1.heap.size W1 W2 := by rw [← hW2]; go_grown
        have hs2 : W2.heap.size = W1.heap.size + 1 := by rw [← hW2]; simp
        have HS : Hid (∀ (j : Nat), j < 16 → ∃ z : ByteArray, W2.cell? ⟨W1.heap.size, j, none⟩ = some (.string z) ∧ 1 ≤ z.size ∧ z.size ≤ 2) := Lib.hid fun j hj => by
          rw [cell_of hh2]
          rcases (by omega : j = 0 ∨ j = 1 ∨ j = 2 ∨ j = 3 ∨ j = 4 ∨ j = 5 ∨ j = 6 ∨ j = 7 ∨ j = 8 ∨ j = 9 ∨ j = 10 ∨ j = 11 ∨ j = 12 ∨ j = 13 ∨ j = 14 ∨ j = 15) with rfl | rfl | rfl | rfl | rfl | rfl | rfl | rfl | rfl | rfl | rfl | rfl | rfl | rfl | rfl | rfl
          all_goals exact ⟨_, rfl, by decide, by decide⟩
        have HH2 := Lib.hid ((hb2.block _ (lt_of_cell c0)).trans HH1.out)
        have HB2 := Lib.hid (HB1.out.trans (hb2.mono HB1.out.size))
        have hlt0 : W1.heap.size < W2.heap.size := by omega
        have hne4 : W1.heap.size ≠ w.heap.size := by have h0 : w.heap.size < W1.heap.size := lt_of_cell c0; omega
        clear hW2 hb2 hs2 hh2 c0 c1 c2 f0 f1 f2

        go_loopg [9] 16 (fun g v wr => ∃ j : Nat, j ≤ 16 ∧ g + j = 16 ∧ v = .int .i64 j ∧ Below W2.heap.size W2 wr)
        case atStart => exact ⟨0, by omega, rfl, rfl, Below.refl _ _⟩
        case round =>
          obtain ⟨j, hj, hg, rfl, hb⟩ := hrel
          have HB := Lib.hid hb
          have HH3 := Lib.hid ((hb.block _ (lt_of_cell (cell_of HH2.out 0))).trans HH2.out)
          have HB3 := Lib.hid (HB2.out.trans (hb.mono HB2.out.size))
          clear hb
          by_cases hlt : j < 16
          · obtain ⟨z, hz, hz1, hz2⟩ := HS.out j hlt
            have c3 := cell_below HB.out hlt0 hz
            clear hz
            by_cases hlen : (z.size : Int) ≤ (s.size : Int) - (a : Int)
            · obtain ⟨a1, ha1⟩ : ∃ a1 : Nat, (a : Int) + (z.size : Int) = (a1 : Int) := ⟨a + z.size, rfl⟩
              have haz : a ≤ a1 := by omega
              have haz2 : a1 ≤ s.size := by omega
              go_wp2_with fail
              go_quiet (fail)
              have HB4 := Lib.hid (below_drewN HB.out nq)
              have HH4 : Hid ((wr.drewN nq).heap[w.heap.size]? = _) := HH3
              have HB5 := Lib.hid (below_drewN HB3.out nq)
              have c4 : (wr.drewN nq).cell? ⟨W1.heap.size, j, none⟩ = some (.string z) := c3
              generalize wr.drewN nq = w4 at *
              clear c3
              go_wp2_with fail
              · have d0 := cell_of HH4.out 0
                have d1 := cell_of HH4.out 1
                have d2 := cell_of HH4.out 2
                have e0 := free_of HH4.out 0
                have e1 := free_of HH4.out 1
                have e2 := free_of HH4.out 2
                go_region_held3 (fun w' => w'.cell? ⟨W1.heap.size, j, none⟩ = some (.string z)) (first | assumption | exact far3 c4 hne4) (fail)
                go_wp2_with fail
                refine bodyPost_ret (results_ctt rfl _ _ w.heap.size 124 #[.int .i64 4, .string z, .int .i64 a] (0, 0) _ rfl (put3 HH4.out (.int .i64 4) (.string z) (.int .i64 a)) Try.underlying124 rfl (by kernel_rfl)) rfl ?_
                have hb := HB5.out
                exact ⟨⟨_, _, _, _, _, rfl, by omega, fun _ => ⟨a1, by first | rfl | (rw [IntKind.wrap_i64]; omega) | (rw [IntKind.wrap_i64]; unfold wrap64; omega), by omega, by omega⟩⟩, by go_grown⟩
              · go_roundg (16 - (j + 1))
                case rel => exact ⟨j + 1, by omega, by omega, by first | rfl | rw [w64 (by omega) (by omega)], HB4.out⟩
                case measure => omega
            · have hl2 : decide ((z.size : Int) ≤ (s.size : Int) - (a : Int)) = false := decide_eq_false hlen
              clear hlen
              go_wp2_with fail
              go_quiet (fail)
              go_wp2_with fail
              go_roundg (16 - (j + 1))
              case rel => exact ⟨j + 1, by omega, by omega, by first | rfl | rw [w64 (by omega) (by omega)], below_drewN HB.out _⟩
              case measure => omega
          · have c0 := cell_of HH3.out 0; have c1 := cell_of HH3.out 1; have c2 := cell_of HH3.out 2; have f0 := free_of HH3.out 0; have f1 := free_of HH3.out 1; have f2 := free_of HH3.out 2
            go_wp2_with fail
            refine bodyPost_ret (results_ctt rfl _ _ w.heap.size 124 _ (0, 0) _ rfl (put3 HH3.out _ _ _) Try.underlying124 rfl (by kernel_rfl)) rfl ?_; have hb := HB3.out; exact ⟨⟨_, _, _, _, _, rfl, by first | (rw [ByteArray.size_extract]; omega) | decide, fun h => by first | exact ⟨_, rfl, by omega, by omega⟩ | exact ⟨j + 1, by first | rfl | go_num, by omega, by omega⟩ | (exfalso; omega)⟩, by go_grown⟩
    · go_wp2_with fail
      go_loopg [7] s.size (fun g v wr => ∃ j : Nat, a ≤ j ∧ g + j = s.size + a ∧ j ≤ s.size ∧ v = .int .i64 j ∧ W1 = wr)
      case atStart => exact ⟨a, by omega, rfl, by omega, rfl, rfl⟩
      case round =>
        obtain ⟨j, haj, hg, hjs, rfl, rfl⟩ := hrel
        by_cases hlt : j < s.size
        · go_wp2_with fail
          refine (digit_is _ _).mono ?_
          rintro e W1 ⟨rfl, rfl⟩
          cases hJ : digF ((s[j].toNat : Nat) : Int)
          · have hj : a < j := by
              rcases Nat.lt_or_ge a j with h | h
              · exact h
              · obtain rfl : j = a := by omega
                rw [hD0] at hJ
                cases hJ
            go_wp2_with fail
            all_goals first | (refine bodyPost_ret (results_ctt rfl _ _ w.heap.size 124 _ (0, 0) _ rfl (put3 HH1.out _ _ _) Try.underlying124 rfl (by kernel_rfl)) rfl ?_; have hb := HB1.out; exact ⟨⟨_, _, _, _, _, rfl, by first | (rw [ByteArray.size_extract]; omega) | decide, fun h => by first | exact ⟨_, rfl, by omega, by omega⟩ | exact ⟨j + 1, by first | rfl | go_num, by omega, by omega⟩ | (exfalso; omega)⟩, by go_grown⟩) | skip
            refine (digit_is _ _).mono ?_
            rintro e W1 ⟨rfl, rfl⟩
            cases digF _
            · go_wp2_with fail
              refine bodyPost_ret (results_ctt rfl _ _ w.heap.size 124 _ (0, 0) _ rfl (put3 HH1.out _ _ _) Try.underlying124 rfl (by kernel_rfl)) rfl ?_; have hb := HB1.out; exact ⟨⟨_, _, _, _, _, rfl, by first | (rw [ByteArray.size_extract]; omega) | decide, fun h => by first | exact ⟨_, rfl, by omega, by omega⟩ | exact ⟨j + 1, by first | rfl | go_num, by omega, by omega⟩ | (exfalso; omega)⟩, by go_grown⟩
            · go_wp2_with fail
              try go_simp
              go_loopg [7] s.size (fun g v wr => ∃ j : Nat, a < j ∧ s.size ≤ g + j ∧ j ≤ s.size ∧ v = .int .i64 j ∧ W1 = wr)
              case atStart => exact ⟨j + 1, by omega, by omega, by omega, by first | rfl | go_num, rfl⟩
              case round =>
                obtain ⟨j, haj, hg, hjs, rfl, rfl⟩ := hrel
                have haj2 : a ≤ j := by omega
                by_cases hlt : j < s.size
                · go_wp2_with fail
                  refine (digit_is _ _).mono ?_
                  rintro e W1 ⟨rfl, rfl⟩
                  cases hJ : digF ((s[j].toNat : Nat) : Int)
                  · go_wp2_with fail
                    refine bodyPost_ret (results_ctt rfl _ _ w.heap.size 124 _ (0, 0) _ rfl (put3 HH1.out _ _ _) Try.underlying124 rfl (by kernel_rfl)) rfl ?_; have hb := HB1.out; exact ⟨⟨_, _, _, _, _, rfl, by first | (rw [ByteArray.size_extract]; omega) | decide, fun h => by first | exact ⟨_, rfl, by omega, by omega⟩ | exact ⟨j + 1, by first | rfl | go_num, by omega, by omega⟩ | (exfalso; omega)⟩, by go_grown⟩
                  · go_wp2_with fail
                    go_roundg (s.size - (j + 1))
                    case rel => exact ⟨j + 1, by omega, by omega, by omega, by first | rfl | rw [w64 (by omega) (by omega)], rfl⟩
                    case measure => omega
                · go_wp2_with fail
                  refine bodyPost_ret (results_ctt rfl _ _ w.heap.size 124 _ (0, 0) _ rfl (put3 HH1.out _ _ _) Try.underlying124 rfl (by kernel_rfl)) rfl ?_; have hb := HB1.out; exact ⟨⟨_, _, _, _, _, rfl, by first | (rw [ByteArray.size_extract]; omega) | decide, fun h => by first | exact ⟨_, rfl, by omega, by omega⟩ | exact ⟨j + 1, by first | rfl | go_num, by omega, by omega⟩ | (exfalso; omega)⟩, by go_grown⟩
          · go_wp2_with fail
            go_roundg (s.size + a - (j + 1))
            case rel => exact ⟨j + 1, by omega, by omega, by omega, by first | rfl | rw [w64 (by omega) (by omega)], rfl⟩
            case measure => omega
        · have hj : a < j := by omega
          go_wp2_with fail
          refine bodyPost_ret (results_ctt rfl _ _ w.heap.size 124 _ (0, 0) _ rfl (put3 HH1.out _ _ _) Try.underlying124 rfl (by kernel_rfl)) rfl ?_; have hb := HB1.out; exact ⟨⟨_, _, _, _, _, rfl, by first | (rw [ByteArray.size_extract]; omega) | decide, fun h => by first | exact ⟨_, rfl, by omega, by omega⟩ | exact ⟨j + 1, by first | rfl | go_num, by omega, by omega⟩ | (exfalso; omega)⟩, by go_grown⟩
  · go_wp2_with fail
    go_loopg [7] s.size (fun g v wr => ∃ j : Nat, a ≤ j ∧ g + j = s.size + a ∧ j ≤ s.size ∧ v = .int .i64 j ∧ W1 = wr)
    case atStart => exact ⟨a, by omega, rfl, by omega, rfl, rfl⟩
    case round =>
      obtain ⟨j, haj, hg, hjs, rfl, rfl⟩ := hrel
      by_cases hlt : j < s.size
      · go_wp2_with fail
        refine (letter_is _ _).mono ?_
        rintro e W1 ⟨rfl, rfl⟩
        cases hJ : letF ((s[j].toNat : Nat) : Int)
        · go_wp2_with fail
          refine (digit_is _ _).mono ?_
          rintro e W1 ⟨rfl, rfl⟩
          cases hD : digF ((s[j].toNat : Nat) : Int)
          · have hj : a < j := by
              rcases Nat.lt_or_ge a j with h | h
              · exact h
              · obtain rfl : j = a := by omega
                rw [hL] at hJ
                cases hJ
            go_wp2_with fail
            all_goals first
            | (refine bodyPost_ret (results_ctt rfl _ _ w.heap.size 124 _ (0, 0) _ rfl (put3 HH1.out _ _ _) Try.underlying124 rfl (by kernel_rfl)) rfl ?_; have hb := HB1.out; exact ⟨⟨_, _, _, _, _, rfl, by first | (rw [ByteArray.size_extract]; omega) | decide, fun h => by first | exact ⟨_, rfl, by omega, by omega⟩ | exact ⟨j + 1, by first | rfl | go_num, by omega, by omega⟩ | (exfalso; omega)⟩, by go_grown⟩)
            | (refine (word_any _ _).mono ?_
               rintro e w3 ⟨⟨z, rfl⟩, hb3⟩
               have HH3 := Lib.hid ((hb3.block _ (lt_of_cell c0)).trans HH1.out)
               have HB3 := Lib.hid (HB1.out.trans (hb3.mono HB1.out.size))
               clear c0 c1 c2 f0 f1 f2 hb3
               have c0 := cell_of HH3.out 0
               have c1 := cell_of HH3.out 1
               have c2 := cell_of HH3.out 2
               have f0 := free_of HH3.out 0
               have f1 := free_of HH3.out 1
               have f2 := free_of HH3.out 2
               cases z
               all_goals
                 go_wp2_with fail
                 refine bodyPost_ret (results_ctt rfl _ _ w.heap.size 124 _ (0, 0) _ rfl (put3 HH3.out _ _ _) Try.underlying124 rfl (by kernel_rfl)) rfl ?_
                 have hb := HB3.out
                 exact ⟨⟨_, _, _, _, _, rfl, by first | (rw [ByteArray.size_extract]; omega) | decide, fun h => by first | exact ⟨_, rfl, by omega, by omega⟩ | exact ⟨j + 1, by first | rfl | go_num, by omega, by omega⟩ | (exfalso; omega)⟩, by go_grown⟩)
          · go_wp2_with fail
            go_roundg (s.size + a - (j + 1))
            case rel => exact ⟨j + 1, by omega, by omega, by omega, by first | rfl | rw [w64 (by omega) (by omega)], rfl⟩
            case measure => omega
        · go_wp2_with fail
          go_roundg (s.size + a - (j + 1))
          case rel => exact ⟨j + 1, by omega, by omega, by omega, by first | rfl | rw [w64 (by omega) (by omega)], rfl⟩
          case measure => omega
      · have hj : a < j := by omega
        go_wp2_with fail
        all_goals first
        | (refine bodyPost_ret (results_ctt rfl _ _ w.heap.size 124 _ (0, 0) _ rfl (put3 HH1.out _ _ _) Try.underlying124 rfl (by kernel_rfl)) rfl ?_; have hb := HB1.out; exact ⟨⟨_, _, _, _, _, rfl, by first | (rw [ByteArray.size_extract]; omega) | decide, fun h => by first | exact ⟨_, rfl, by omega, by omega⟩ | exact ⟨j + 1, by first | rfl | go_num, by omega, by omega⟩ | (exfalso; omega)⟩, by go_grown⟩)
        | (refine (word_any _ _).mono ?_
           rintro e w3 ⟨⟨z, rfl⟩, hb3⟩
           have HH3 := Lib.hid ((hb3.block _ (lt_of_cell c0)).trans HH1.out)
           have HB3 := Lib.hid (HB1.out.trans (hb3.mono HB1.out.size))
           clear c0 c1 c2 f0 f1 f2 hb3
           have c0 := cell_of HH3.out 0
           have c1 := cell_of HH3.out 1
           have c2 := cell_of HH3.out 2
           have f0 := free_of HH3.out 0
           have f1 := free_of HH3.out 1
           have f2 := free_of HH3.out 2
           cases z
           all_goals
             go_wp2_with fail
             refine bodyPost_ret (results_ctt rfl _ _ w.heap.size 124 _ (0, 0) _ rfl (put3 HH3.out _ _ _) Try.underlying124 rfl (by kernel_rfl)) rfl ?_
             have hb := HB3.out
             exact ⟨⟨_, _, _, _, _, rfl, by first | (rw [ByteArray.size_extract]; omega) | decide, fun h => by first | exact ⟨_, rfl, by omega, by omega⟩ | exact ⟨j + 1, by first | rfl | go_num, by omega, by omega⟩ | (exfalso; omega)⟩, by go_grown⟩)
end Go.Proofs.Ytaddhackggbdkaa
/-! A text cut into its tokens: the document's answer comes to an end, and the tokens lie in memory of its own; no condition. -/
namespace Go.Proofs.Ytaddhackggbdkaa
open Go.RowKit
open Go.Proofs.YtaddhackggbdkaaW.PrintWords (pw_below_grown)
set_option maxRecDepth 100000
/-- A token's cells. -/
def TokOk (cs : List Value) : Prop := ∃ k t p, cs = [.int .i64 k, .string t, .int .i64 p] ∧ t.size ≤ 200
abbrev Tk := Int × ByteArray × Int
def tk (x : Tk) : List Value := [.int .i64 x.1, .string x.2.1, .int .i64 x.2.2]
def tks (l : List Tk) : List Value := l.flatMap tk
theorem tks_length : ∀ l : List Tk, (tks l).length = l.length * 3
  | [] => rfl
  | x :: l => by
    have : tks (x :: l) = tk x ++ tks l := by simp [tks]
    rw [this, List.length_append, tks_length l, List.length_cons]
    simp only [tk, List.length_cons, List.length_nil]
    omega
theorem tks_at : ∀ (l : List Tk) (j : Nat) (x : Tk) (i : Nat) (u : Value), l[j]? = some x → (tk x)[i]? = some u → (tks l)[j * 3 + i]? = some u
  | [], j, x, i, u, h, _ => by simp at h
  | y :: l, 0, x, i, u, h, hu => by
    simp at h
    subst h
    have hi : i < (tk y).length := (List.getElem?_eq_some_iff.1 hu).1
    have : tks (y :: l) = tk y ++ tks l := by simp [tks]
    rw [this, Nat.zero_mul, Nat.zero_add, List.getElem?_append_left hi, hu]
  | y :: l, j + 1, x, i, u, h, hu => by
    have : tks (y :: l) = tk y ++ tks l := by simp [tks]
    have h3 : (tk y).length = 3 := rfl
    rw [this, List.getElem?_append_right (by omega), h3, show (j + 1) * 3 + i - 3 = j * 3 + i by omega]
    exact tks_at l j x i u (by simpa using h) hu
theorem tks_row {w : World} {B : Nat} {A : Option Addr} {l c : Nat} {L : List Tk} (h : w.ownsRow B 124 3 (.slice A l c) l (tks L)) (hl : L.length = l) (ht : ∀ x ∈ L, x.2.1.size ≤ 200) : Row w TokOk 3 A l c := by
  rcases h.2 with ⟨hv, h0⟩ | ⟨g, cap, cur, hv, hB, hh, h1, h2, h3, h4⟩
  · injection hv with _ _ e3
    subst e3
    exact ⟨by omega, by decide, fun i hi => by omega⟩
  · injection hv with e1 _ e3
    subst e1 e3
    refine ⟨h1, h2, fun i hi => ?_⟩
    have hi' : i < L.length := by omega
    refine ⟨_, tk L[i], rfl, (Array.getElem?_eq_some_iff.1 hh).1, ⟨_, _, _, rfl, ht _ (List.getElem_mem hi')⟩, fun j u hu => ?_⟩
    rw [cell_at hh]
    have hj : j < 3 := (List.getElem?_eq_some_iff.1 hu).1
    have hx := tks_at L i _ j u (List.getElem?_eq_getElem hi') hu
    rw [← h4, List.getElem?_take] at hx
    split at hx
    · simpa using hx
    · cases hx
theorem own_stays {w w' : World} {B e sz n : Nat} {v : Value} {xs : List Value} (h : w.ownsRow B e sz v n xs) (hb : Below w.heap.size w w') : w'.ownsRow B e sz v n xs := by
  refine ⟨h.1, ?_⟩
  rcases h.2 with h | ⟨g, cap, cur, hv, hB, hh, h'⟩
  · exact .inl h
  · exact .inr ⟨g, cap, cur, hv, hB, (hb.block g (Array.getElem?_eq_some_iff.1 hh).1).trans hh, h'⟩
theorem own_lt {w : World} {B e sz n : Nat} {v : Value} {xs : List Value} (h : w.ownsRow B e sz v n xs) {i : Nat} (hi : v.ownBlock = some i) : B ≤ i ∧ i < w.heap.size := by
  rcases h.2 with ⟨rfl, _⟩ | ⟨g, cap, cur, rfl, hB, hh, _⟩
  · cases hi
  · cases hi
    exact ⟨hB, (Array.getElem?_eq_some_iff.1 hh).1⟩
theorem own_sl {w : World} {B e sz n : Nat} {v : Value} {xs : List Value} (h : w.ownsRow B e sz v n xs) : ∃ A c, v = .slice A n c := by
  rcases h.2 with ⟨rfl, rfl⟩ | ⟨g, cap, cur, rfl, _⟩
  · exact ⟨none, 0, rfl⟩
  · exact ⟨_, cap, rfl⟩
theorem info124 : (Try.prog.info? 124).map (fun i => (i.zero, i.size, i.bytes)) = some (some (.agg #[.int .i64 0, .string ⟨#[]⟩, .int .i64 0]), 3, 32) := by kernel_rfl
theorem parts_of_info {t : TypeId} {z : Value} {n b : Nat} (h : (Try.prog.info? t).map (fun i => (i.zero, i.size, i.bytes)) = some (some z, n, b)) : ∃ i, Try.prog.info? t = some i ∧ i.zero = some z ∧ i.size = n ∧ i.bytes = b := by
  cases hi : Try.prog.info? t with
  | none => rw [hi] at h; cases h
  | some i =>
    rw [hi] at h
    simp only [Option.map_some, Option.some.injEq, Prod.mk.injEq] at h
    exact ⟨i, rfl, h⟩
/-- The tokens, where the text ends or the error stands, the error; where there is none the tokens lie there. -/
def RetL (e : Ending) (w' : World) : Prop := ∃ A l c n x, e = .returned (.tuple #[.slice A l c, .int .i64 n, .int .i64 x]) ∧ l ≤ 60 ∧ Row w' TokOk 3 A l c
theorem cell3_new (w : World) (x y z : Value) (t : TypeId) : ∀ (j : Nat) (u : Value), [x, y, z][j]? = some u → (w.alloc (.cells #[x, y, z] t)).cell? ((⟨w.heap.size, 0, none⟩ : Addr).add j) = some u := fun j u hu => by
  rw [cell_at (heap_alloc_new w _)]
  simpa using hu
set_option maxHeartbeats 2000000 in
theorem lex_any (s : ByteArray) (w : World) : Calls Try.prog 62 #[.string s] w fun e w' => RetL e w' ∧ Below w.heap.size w w' := by
  obtain ⟨i0, hi0, hz0, hz1, hz2⟩ := parts_of_info info124
  have hnil : ∀ W : World, Row W TokOk 3 none 0 0 := fun W => ⟨Nat.le_refl _, by decide, fun i hi => by omega⟩
  have HN := Lib.hid hnil
  clear hnil
  by_cases hs : s.size ≤ 200
  · have hs' : ¬ (200 : Int) < (s.size : Int) := by omega
    go_enter Try.func62, Try.ntmps62
    go_wp2_with fail
    go_loopg [5, 6] s.size (fun g v5 v6 wr => ∃ a : Nat, ∃ L : List Tk, ∃ A c, v5 = .slice A L.length c ∧ v6 = .int .i64 a ∧ a ≤ s.size ∧ s.size ≤ g + a ∧ L.length ≤ 60 ∧ (∀ x ∈ L, x.2.1.size ≤ 200) ∧ wr.ownsRow w.heap.size 124 3 (.slice A L.length c) L.length (tks L) ∧ Below w.heap.size w wr)
    case atStart => exact ⟨0, [], none, 0, rfl, rfl, by omega, by omega, by simp, by simp, World.ownsRow_nil _ _ _ _, Below.refl _ _⟩
    case round =>
      obtain ⟨a, L, A, c, rfl, rfl, ha, hg, hL, hT, ho, hb⟩ := hrel
      have HT := Lib.hid hT
      have HO := Lib.hid ho
      have HB := Lib.hid hb
      clear hT ho hb
      by_cases hlt : a < s.size
      · go_wp2_with fail
        · go_roundg (s.size - (a + 1))
          case rel => exact ⟨a + 1, L, A, c, rfl, by first | rfl | rw [w64 (by omega) (by omega)], by omega, by omega, hL, HT.out, HO.out, HB.out⟩
          case measure => omega
        · refine (next_any s hs a hlt _).mono ?_
          rintro e w2 ⟨⟨k, t, p, q, x, rfl, ht, hx⟩, hb2⟩
          have HO2 := Lib.hid (own_stays HO.out hb2)
          have HB2 := Lib.hid (HB.out.trans (hb2.mono HB.out.size))
          clear hb2
          by_cases hx0 : x = 0
          · subst hx0
            obtain ⟨j, rfl, haj, hjn⟩ := hx rfl
            by_cases h60 : (60 : Int) ≤ (L.length : Int)
            · go_wp2_with fail
              go_ret3
              exact ⟨⟨none, 0, 0, _, _, rfl, by omega, HN.out _⟩, by have hb := HB2.out; have := hb.size; go_grown⟩
            · have HNW : Hid (∀ (j : Nat) (u : Value), [Value.int .i64 k, .string t, .int .i64 p][j]? = some u → ((w2.alloc (.cells #[.int .i64 k, .string t, .int .i64 p] 124)).alloc (.cells #[.int .i64 k, .string t, .int .i64 p] 124)).cell? ((⟨w2.heap.size + 1, 0, none⟩ : Addr).add j) = some u) := Lib.hid (by
                have := cell3_new (w2.alloc (.cells #[.int .i64 k, .string t, .int .i64 p] 124)) (.int .i64 k) (.string t) (.int .i64 p) 124
                simpa using this)
              have HB3 : Hid (Below w.heap.size w ((w2.alloc (.cells #[.int .i64 k, .string t, .int .i64 p] 124)).alloc (.cells #[.int .i64 k, .string t, .int .i64 p] 124))) := Lib.hid (by have hb := HB2.out; have := hb.size; go_grown)
              have hl3 : ¬ (60 : Int) ≤ (L.length : Int) := h60
              go_wp2_with (at_builtin; refine wpList_append_own_at _ rfl _ _ 118 rfl w.heap.size 124 i0 (.agg #[.int .i64 0, .string ⟨#[]⟩, .int .i64 0]) 3 32 Try.underlying118 hi0 hz0 hz1 hz2 rfl (by decide) _ _ _ rfl ((HO2.out.alloc _).alloc _) ⟨w2.heap.size + 1, 0, none⟩ 1 1 [.int .i64 k, .string t, .int .i64 p] rfl rfl HNW.out (by simp [Value.oneCell']) (by unfold maxLen; omega) (by omega) HB3.out.size ?_; intro v' w4 ho4 hg4 _ _; have H4 := Lib.hid (And.intro ho4 (pw_below_grown HB3.out _ HB3.out.size hg4 (fun i e => (own_lt HO2.out e).1))); clear ho4 hg4)
              obtain ⟨A', c', hv'⟩ := own_sl H4.out.1
              subst hv'
              go_roundg (s.size - j)
              case rel =>
                have hl1 : (L ++ [((k, t, p) : Tk)]).length = L.length + 1 := by simp
                refine ⟨j, L ++ [(k, t, p)], A', c', by rw [hl1], rfl, hjn, by omega, by omega, fun y hy => ?_, ?_, H4.out.2⟩
                · rcases List.mem_append.1 hy with h | h
                  · exact HT.out y h
                  · simp only [List.mem_singleton] at h
                    rw [h]
                    exact ht
                · rw [hl1]
                  have := H4.out.1
                  simpa [tks, tk] using this
              case measure => omega
          · go_wp2_with fail
            all_goals
              go_ret3
              exact ⟨⟨none, 0, 0, _, _, rfl, by omega, HN.out _⟩, by have hb := HB2.out; have := hb.size; go_grown⟩
      · go_wp2_with fail
        go_ret3
        exact ⟨⟨A, _, c, _, _, rfl, hL, tks_row HO.out rfl HT.out⟩, HB.out⟩
  · have hs' : (200 : Int) < (s.size : Int) := by omega
    go_enter Try.func62, Try.ntmps62
    go_wp2_with fail
    go_ret3
    exact ⟨⟨none, 0, 0, _, _, rfl, by omega, HN.out _⟩, by go_grown⟩
end Go.Proofs.Ytaddhackggbdkaa
/-! A reader of tokens: what it holds, how it is kept, its smallest steps walked; conditions: the tokens lie in an elder world. -/
namespace Go.Proofs.Ytaddhackggbdkaa
open Go.RowKit
set_option maxRecDepth 100000
/-- A reader: its type, the world in which its tokens lie, its block, the tokens' row. -/
structure Cx where
  T : TypeId
  w0 : World
  g : Nat
  A : Option Addr
  l : Nat
  c : Nat
structure Cx.ok (x : Cx) : Prop where
  row : Row x.w0 TokOk 3 x.A x.l x.c
  len : x.l ≤ 60
  g : x.w0.heap.size ≤ x.g
/-- It stands at token a. -/
def Cx.at (x : Cx) (w : World) (a : Nat) : Prop := ∃ en er po, w.heap[x.g]? = some (.cells #[.slice x.A x.l x.c, .int .i64 a, .int .i64 en, .int .i64 er, .int .i64 po] x.T (0, 0)) ∧ a ≤ x.l ∧ Below x.w0.heap.size x.w0 w
/-- All but the reader is as it was. -/
def Cx.kp (x : Cx) (w w' : World) : Prop := w.heap.size ≤ w'.heap.size ∧ ∀ i, i < w.heap.size → i ≠ x.g → w'.heap[i]? = w.heap[i]?
theorem Cx.kp.refl (x : Cx) (w : World) : x.kp w w := ⟨Nat.le_refl _, fun _ _ _ => rfl⟩
theorem Cx.kp.trans {x : Cx} {w w' w'' : World} (h : x.kp w w') (k : x.kp w' w'') : x.kp w w'' := ⟨Nat.le_trans h.1 k.1, fun i hi hg => (k.2 i (Nat.lt_of_lt_of_le hi h.1) hg).trans (h.2 i hi hg)⟩
theorem Cx.kp.of_below {x : Cx} {w w' : World} (h : Below w.heap.size w w') : x.kp w w' := ⟨h.size, fun i hi _ => h.block i hi⟩
theorem Cx.kp.below {x : Cx} {w w' w'' : World} (h : x.kp w w') (k : Below w'.heap.size w' w'') : x.kp w w'' := h.trans (.of_below k)
theorem Cx.at.lt {x : Cx} {w : World} {a : Nat} (h : x.at w a) : x.g < w.heap.size := by
  obtain ⟨_, _, _, h, _⟩ := h
  exact (Array.getElem?_eq_some_iff.1 h).1
theorem Cx.at.le {x : Cx} {w : World} {a : Nat} (h : x.at w a) : a ≤ x.l := by
  obtain ⟨_, _, _, _, h, _⟩ := h
  exact h
theorem Cx.at.old {x : Cx} {w : World} {a : Nat} (h : x.at w a) : Below x.w0.heap.size x.w0 w := by
  obtain ⟨_, _, _, _, _, h⟩ := h
  exact h
theorem Cx.at.below {x : Cx} {w w' : World} {a : Nat} (h : x.at w a) (k : Below w.heap.size w w') : x.at w' a := by
  have hl := h.lt
  obtain ⟨en, er, po, h, ha, hb⟩ := h
  exact ⟨en, er, po, (k.block _ hl).trans h, ha, hb.trans (k.mono hb.size)⟩
/-- Another block's cells in what comes of it. -/
theorem Cx.kp.blk {x : Cx} {w w' : World} {b : Nat} {o : Obj} (h : x.kp w w') (hb : w.heap[b]? = some o) (hne : b ≠ x.g) : w'.heap[b]? = some o := (h.2 b (Array.getElem?_eq_some_iff.1 hb).1 hne).trans hb
/-- The token at which it stands. -/
theorem Cx.at.tok {x : Cx} {w : World} {a : Nat} (h : x.at w a) (hx : x.ok) (hl : a < x.l) : ∃ ad k t p, x.A = some ad ∧ t.size ≤ 200 ∧ w.cell? (ad.add (a * 3)) = some (.int .i64 k) ∧ w.cell? ⟨(ad.add (a * 3)).block, (ad.add (a * 3)).off + 1, none⟩ = some (.string t) ∧ w.cell? ⟨(ad.add (a * 3)).block, (ad.add (a * 3)).off + 2, none⟩ = some (.int .i64 p) := by
  obtain ⟨ad, cs, e, ⟨k, t, p, rfl, ht⟩, hc⟩ := hx.row.get hl
  have hb := h.old
  exact ⟨ad, k, t, p, e, ht, hc w hb 0 _ rfl, by rw [← add_fld _ _ 1 (by omega)]; exact hc w hb 1 _ rfl, by rw [← add_fld _ _ 2 (by omega)]; exact hc w hb 2 _ rfl⟩
/-- Its five cells, and that those that are written are free. -/
theorem Cx.at.cells {x : Cx} {w : World} {a : Nat} (h : x.at w a) : ∃ en er po : Int, w.heap[x.g]? = some (.cells #[.slice x.A x.l x.c, .int .i64 a, .int .i64 en, .int .i64 er, .int .i64 po] x.T (0, 0)) ∧ w.cell? ⟨x.g, 0, none⟩ = some (.slice x.A x.l x.c) ∧ w.cell? ⟨x.g, 1, none⟩ = some (.int .i64 a) ∧ w.cell? ⟨x.g, 2, none⟩ = some (.int .i64 en) ∧ w.cell? ⟨x.g, 3, none⟩ = some (.int .i64 er) ∧ w.cell? ⟨x.g, 4, none⟩ = some (.int .i64 po) ∧
    w.frozen? ⟨x.g, 1, none⟩ = false ∧ w.frozen? ⟨x.g, 3, none⟩ = false ∧ w.frozen? ⟨x.g, 4, none⟩ = false := by
  obtain ⟨en, er, po, hh, _⟩ := h
  exact ⟨en, er, po, hh, cell_of hh 0, cell_of hh 1, cell_of hh 2, cell_of hh 3, cell_of hh 4, free_of hh 1, free_of hh 3, free_of hh 4⟩
/-- A store into the reader's own block. -/
theorem Cx.kp.set {x : Cx} {w w' : World} (h : x.kp w w') (i : Nat) (u : Value) : x.kp w (w'.setCell ⟨x.g, i, none⟩ u) := ⟨by rw [set_size]; exact h.1, fun j hj hne => by rw [set_other _ _ _ _ hne]; exact h.2 j hj hne⟩
theorem Cx.at.set1 {x : Cx} (hx : x.ok) {w : World} {a : Nat} (h : x.at w a) (b : Nat) (hb : b ≤ x.l) : x.at (w.setCell ⟨x.g, 1, none⟩ (.int .i64 b)) b := by
  have hl := h.lt
  obtain ⟨en, er, po, hh, ha, hw⟩ := h
  exact ⟨en, er, po, by simpa using blk_set hh 1 (.int .i64 (b : Int)), hb, hw.setCell (by exact hx.g) _⟩
theorem Cx.at.set3 {x : Cx} (hx : x.ok) {w : World} {a : Nat} (h : x.at w a) (u : Int) : x.at (w.setCell ⟨x.g, 3, none⟩ (.int .i64 u)) a := by
  obtain ⟨en, er, po, hh, ha, hw⟩ := h
  exact ⟨en, u, po, by simpa using blk_set hh 3 (.int .i64 u), ha, hw.setCell (by exact hx.g) _⟩
theorem Cx.at.set4 {x : Cx} (hx : x.ok) {w : World} {a : Nat} (h : x.at w a) (u : Int) : x.at (w.setCell ⟨x.g, 4, none⟩ (.int .i64 u)) a := by
  obtain ⟨en, er, po, hh, ha, hw⟩ := h
  exact ⟨en, er, u, by simpa using blk_set hh 4 (.int .i64 u), ha, hw.setCell (by exact hx.g) _⟩
theorem here_any (x : Cx) (hx : x.ok) (w : World) (a : Nat) (h : x.at w a) : Calls Try.prog 91 #[.pointer (some ⟨x.g, 0, none⟩)] w fun e w' => RetI e ∧ Below w.heap.size w w' := by
  have HX := Lib.hid h
  obtain ⟨en, er, po, hh, c0, c1, c2, c3, c4, -, -, -⟩ := h.cells
  clear hh h
  by_cases hl : a < x.l
  · obtain ⟨ad, k, t, p, e, ht, d0, d1, d2⟩ := HX.out.tok hx hl
    rw [e] at c0
    go_enter Try.func91, Try.ntmps91
    go_wp2_with fail
    go_quiet (fail)
    have hb3 := below_drewN (Below.refl w.heap.size w) nq
    replace c0 : (w.drewN nq).cell? _ = _ := c0
    replace c1 : (w.drewN nq).cell? _ = _ := c1
    replace d2 : (w.drewN nq).cell? _ = _ := d2
    generalize w.drewN nq = w3 at hb3 c0 c1 d2 ⊢
    go_wp2_with fail
    go_quiet (fail)
    have hb4 := below_drewN hb3 nq
    generalize World.drewN _ _ = w4 at hb4 ⊢
    go_wp2_with fail
    go_ret
    exact ⟨retI _, hb4⟩
  · go_enter Try.func91, Try.ntmps91
    go_wp2_with fail
    go_quiet (fail)
    have hb3 := below_drewN (Below.refl w.heap.size w) nq
    replace c2 : (w.drewN nq).cell? _ = _ := c2
    generalize w.drewN nq = w3 at hb3 c2 ⊢
    go_wp2_with fail
    go_ret
    exact ⟨retI _, hb3⟩
theorem fail_any (x : Cx) (hx : x.ok) (w : World) (a : Nat) (n : Int) (h : x.at w a) : Calls Try.prog 86 #[.pointer (some ⟨x.g, 0, none⟩), .int .i64 n] w fun e w' => e = .returned (.tuple #[]) ∧ x.at w' a ∧ x.kp w w' ∧ (n ≠ 0 → ∃ er, w'.cell? ⟨x.g, 3, none⟩ = some (.int .i64 er) ∧ er ≠ 0) := by
  have HX := Lib.hid h
  obtain ⟨en, er, po, hh, c0, c1, c2, c3, c4, f1, f3, f4⟩ := h.cells
  clear hh h
  by_cases he : er = 0
  · subst he
    go_enter Try.func86, Try.ntmps86
    go_wp2_with fail
    refine (here_any x hx w a HX.out).mono ?_
    rintro e w2 ⟨⟨z, rfl⟩, hb2⟩
    have HX2 := Lib.hid (HX.out.below hb2)
    have HB2 := Lib.hid hb2
    obtain ⟨en, er, po, hh, c0, c1, c2, c3, c4, f1, f3, f4⟩ := HX2.out.cells
    clear hb2 hh
    go_wp2_with fail
    go_end0
    refine ⟨rfl, (HX2.out.set3 hx _).set4 hx _, ((Cx.kp.of_below HB2.out).set _ _).set _ _, fun hn => ⟨n, ?_, hn⟩⟩
    obtain ⟨_, _, _, hh, _⟩ := HX2.out.cells
    have h1 := blk_set (blk_set hh 3 (.int .i64 n)) 4 (.int .i64 z)
    have h2 := cell_of h1 3
    simpa using h2
  · go_enter Try.func86, Try.ntmps86
    go_wp2_with fail
    go_end0
    exact ⟨rfl, HX.out, Cx.kp.refl _ _, fun _ => ⟨er, c3, he⟩⟩
/-- A bool came back: true where p holds; where it is true q holds. -/
def RetP (p : Prop) (e : Ending) : Prop := ∃ b, e = .returned (.bool b) ∧ (p → b = true)
def RetQ (q : Prop) (e : Ending) : Prop := ∃ b, e = .returned (.bool b) ∧ (b = true → q)
theorem deep_any (x : Cx) (hx : x.ok) (w : World) (a : Nat) (d : Int) (h : x.at w a) : Calls Try.prog 79 #[.pointer (some ⟨x.g, 0, none⟩), .int .i64 d] w fun e w' => RetP (8 < d) e ∧ x.at w' a ∧ x.kp w w' := by
  have HX := Lib.hid h
  obtain ⟨en, er, po, hh, c0, c1, c2, c3, c4, -, -, -⟩ := h.cells
  clear hh h
  by_cases hd : 8 < d
  · go_enter Try.func79, Try.ntmps79
    go_wp2_with fail
    refine (fail_any x hx w a 12 HX.out).mono ?_
    rintro e w2 ⟨rfl, h2, k2, he⟩
    have H2 := Lib.hid (And.intro h2 k2)
    obtain ⟨er2, d3, hne⟩ := he (by decide)
    clear h2 k2 he c0 c1 c2 c3 c4
    go_wp2_with fail
    go_ret
    exact ⟨⟨_, rfl, fun _ => by simpa using hne⟩, H2.out⟩
  · go_enter Try.func79, Try.ntmps79
    go_wp2_with fail
    go_ret
    exact ⟨⟨_, rfl, fun h => by omega⟩, HX.out, Cx.kp.refl _ _⟩
/-- What is told of a text literal's row of texts at block b. -/
def Lits (w : World) (b n : Nat) : Prop := ∀ i, i < n → ∃ s, w.cell? ⟨b, i, none⟩ = some (.string s)
theorem isw_any (x : Cx) (hx : x.ok) (w : World) (a : Nat) (s : ByteArray) (h : x.at w a) : Calls Try.prog 88 #[.pointer (some ⟨x.g, 0, none⟩), .string s] w fun e w' => RetQ (a < x.l) e ∧ Below w.heap.size w w' := by
  have HX := Lib.hid h
  obtain ⟨en, er, po, hh, c0, c1, c2, c3, c4, -, -, -⟩ := h.cells
  clear hh h
  by_cases he : er = 0
  · subst he
    by_cases hl : a < x.l
    · obtain ⟨ad, k, t, p, e, ht, d0, d1, d2⟩ := HX.out.tok hx hl
      rw [e] at c0
      go_enter Try.func88, Try.ntmps88
      go_wp2_with fail
      go_quiet (fail)
      have hb3 := below_drewN (Below.refl w.heap.size w) nq
      replace c0 : (w.drewN nq).cell? _ = _ := c0
      replace c1 : (w.drewN nq).cell? _ = _ := c1
      replace d0 : (w.drewN nq).cell? _ = _ := d0
      replace d1 : (w.drewN nq).cell? _ = _ := d1
      replace d2 : (w.drewN nq).cell? _ = _ := d2
      generalize w.drewN nq = w3 at hb3 c0 c1 d0 d1 d2 ⊢
      clear c2 c3 c4
      have HF : Hid (∀ w', Below w3.heap.size w3 w' → w'.cell? ⟨x.g, 0, none⟩ = some (.slice (some ad) x.l x.c) ∧ w'.cell? ⟨x.g, 1, none⟩ = some (.int .i64 a) ∧ w'.cell? (ad.add (a * 3)) = some (.int .i64 k) ∧ w'.cell? ⟨(ad.add (a * 3)).block, (ad.add (a * 3)).off + 1, none⟩ = some (.string t) ∧ w'.cell? ⟨(ad.add (a * 3)).block, (ad.add (a * 3)).off + 2, none⟩ = some (.int .i64 p)) := Lib.hid (fun w' hb => ⟨cell_below hb (lt_of_cell c0) c0, cell_below hb (lt_of_cell c1) c1, cell_below hb (lt_of_cell d0) d0, cell_below hb (lt_of_cell d1) d1, cell_below hb (lt_of_cell d2) d2⟩)
      have HB3 := Lib.hid hb3
      clear hb3
      go_wp2_with fail
      go_region_held3 (fun w' => w'.cell? ⟨x.g, 0, none⟩ = some (.slice (some ad) x.l x.c) ∧ w'.cell? ⟨x.g, 1, none⟩ = some (.int .i64 a) ∧ w'.cell? (ad.add (a * 3)) = some (.int .i64 k) ∧ w'.cell? ⟨(ad.add (a * 3)).block, (ad.add (a * 3)).off + 1, none⟩ = some (.string t) ∧ w'.cell? ⟨(ad.add (a * 3)).block, (ad.add (a * 3)).off + 2, none⟩ = some (.int .i64 p))
        (exact HF.out _ (by go_grown)) (fail)
      have HB4 : Hid (Below w.heap.size w (w3.alloc (.cells #[.int .i64 k, .string t, .int .i64 p] 124)).drew) := Lib.hid (by have hb := HB3.out; have := hb.size; go_grown)
      have e0 := cell_of (heap_alloc_new w3 (.cells #[.int .i64 k, .string t, .int .i64 p] 124)) 0
      have e1 := cell_of (heap_alloc_new w3 (.cells #[.int .i64 k, .string t, .int .i64 p] 124)) 1
      replace e0 : (w3.alloc (.cells #[.int .i64 k, .string t, .int .i64 p] 124)).drew.cell? ⟨w3.heap.size, 0, none⟩ = _ := e0
      replace e1 : (w3.alloc (.cells #[.int .i64 k, .string t, .int .i64 p] 124)).drew.cell? ⟨w3.heap.size, 1, none⟩ = _ := e1
      generalize (w3.alloc (.cells #[.int .i64 k, .string t, .int .i64 p] 124)).drew = w4 at HB4 e0 e1 ⊢
      clear c0 c1 d0 d1 d2 HF HB3
      go_wp2_with fail
      all_goals first
      | (go_ret; exact ⟨⟨_, rfl, fun _ => hl⟩, HB4.out⟩)
      | (refine (word_any _ _).mono ?_
         rintro e w5 ⟨⟨z, rfl⟩, hb5⟩
         have HB5 := Lib.hid (HB4.out.trans (hb5.mono HB4.out.size))
         clear hb5
         go_wp2_with fail
         all_goals (go_ret; exact ⟨⟨_, rfl, fun _ => hl⟩, HB5.out⟩))
    · go_enter Try.func88, Try.ntmps88
      go_wp2_with fail
      go_quiet (fail)
      have hb3 := below_drewN (Below.refl w.heap.size w) nq
      generalize w.drewN nq = w3 at hb3 ⊢
      go_wp2_with fail
      go_ret
      exact ⟨⟨_, rfl, fun h => by cases h⟩, hb3⟩
  · go_enter Try.func88, Try.ntmps88
    go_wp2_with fail
    go_quiet (fail)
    have hb3 := below_drewN (Below.refl w.heap.size w) nq
    generalize w.drewN nq = w3 at hb3 ⊢
    go_wp2_with fail
    go_ret
    exact ⟨⟨_, rfl, fun h => by cases h⟩, hb3⟩
end Go.Proofs.Ytaddhackggbdkaa
/-! A reader of tokens takes signs; condition: the tokens lie in an elder world. -/
namespace Go.Proofs.Ytaddhackggbdkaa
open Go.RowKit
set_option maxRecDepth 100000
/-- A text came back: an empty one, or the reader stands one further. -/
def Cx.tk (x : Cx) (w : World) (a : Nat) (e : Ending) (w' : World) : Prop := ∃ s a', e = .returned (.string s) ∧ (a' = a ∧ s = ⟨#[]⟩ ∨ a' = a + 1) ∧ x.at w' a' ∧ x.kp w w'
theorem take_any (x : Cx) (hx : x.ok) (w : World) (a b n : Nat) (h : x.at w a) (hb : b ≠ x.g) (hn : n ≤ 100) (hl : ∀ i, i < n → ∃ s, w.cell? ⟨b, i, none⟩ = some (.string s)) :
    Calls Try.prog 81 #[.pointer (some ⟨x.g, 0, none⟩), .slice (some ⟨b, 0, none⟩) n n] w fun e w' => x.tk w a e w' := by
  have HX := Lib.hid h
  have HL := Lib.hid hl
  clear h hl
  go_enter Try.func81, Try.ntmps81
  go_wp2_with fail
  go_loopg [5] n (fun g i wr => ∃ j : Nat, j ≤ n ∧ g + j = n ∧ i = .int .i64 j ∧ Below w.heap.size w wr)
  case atStart => exact ⟨0, Nat.zero_le _, rfl, rfl, Below.refl _ _⟩
  case round =>
    obtain ⟨j, hj, hg, rfl, hbr⟩ := hrel
    have HB := Lib.hid hbr
    clear hbr
    by_cases hlt : j < n
    · obtain ⟨s, hs⟩ := HL.out j hlt
      have hsb := lt_of_cell hs
      have c := cell_below HB.out hsb hs
      go_wp2_with fail
      refine (isw_any x hx wr a s (HX.out.below HB.out)).mono ?_
      rintro e w2 ⟨⟨z, rfl, hz⟩, hb2⟩
      have HB2 := Lib.hid (HB.out.trans (hb2.mono HB.out.size))
      have c2 := cell_below HB2.out hsb hs
      have HX2 := Lib.hid (HX.out.below HB2.out)
      clear hb2 c hs
      cases z
      · go_wp2_with fail
        go_roundg (n - (j + 1))
        case rel => exact ⟨j + 1, by omega, by omega, by first | rfl | rw [w64 (by omega) (by omega)], HB2.out⟩
        case measure => omega
      · have hal := hz rfl
        obtain ⟨en, er, po, hh, c0, c1, -, -, -, f1, -, -⟩ := HX2.out.cells
        have hlen := hx.len
        have c3 : ∀ u, (w2.setCell ⟨x.g, 1, none⟩ u).cell? ⟨b, j, none⟩ = some (.string s) := fun u => by
          rw [World.cell?_of_block (w := w2) (set_other w2 _ u b hb)]
          exact c2
        clear hh hz
        go_wp2_with fail
        go_ret
        refine ⟨s, a + 1, rfl, .inr rfl, ?_, (Cx.kp.of_below HB2.out).set _ _⟩
        exact HX2.out.set1 hx (a + 1) (by omega)
    · go_wp2_with fail
      go_ret
      exact ⟨_, a, rfl, .inl ⟨rfl, rfl⟩, HX.out.below HB.out, Cx.kp.of_below HB.out⟩
theorem must_any (x : Cx) (hx : x.ok) (w : World) (a b n : Nat) (h : x.at w a) (hb : b ≠ x.g) (hn : n ≤ 100) (hl : ∀ i, i < n → ∃ s, w.cell? ⟨b, i, none⟩ = some (.string s)) :
    Calls Try.prog 93 #[.pointer (some ⟨x.g, 0, none⟩), .slice (some ⟨b, 0, none⟩) n n] w fun e w' => x.tk w a e w' := by
  have HT := Lib.hid (take_any x hx w a b n h hb hn hl)
  clear h hl
  go_enter Try.func93, Try.ntmps93
  go_wp2_with fail
  refine HT.out.mono ?_
  rintro e w2 ⟨s, a', rfl, hs, h2, k2⟩
  have H2 := Lib.hid (And.intro h2 k2)
  have HS := Lib.hid hs
  clear h2 k2 hs
  by_cases he : s.toList = []
  · go_wp2_with fail
    refine (fail_any x hx w2 a' 2 H2.out.1).mono ?_
    rintro e w3 ⟨rfl, h3, k3, -⟩
    have H3 := Lib.hid (And.intro h3 k3)
    clear h3 k3
    go_wp2_with fail
    go_ret
    exact ⟨s, a', rfl, HS.out, H3.out.1, H2.out.2.trans H3.out.2⟩
  · have he2 : (s.toList == []) = false := by simpa using he
    clear he
    go_wp2_with fail
    go_ret
    exact ⟨s, a', rfl, HS.out, H2.out.1, H2.out.2⟩
/-- With a literal row of texts, laid ahead of the call. -/
theorem lit_cells (x : Cx) (w : World) (a : Nat) (h : x.at w a) (cs : Array Value) (hc : ∀ i, i < cs.size → ∃ s, cs[i]? = some (.string s)) :
    x.at (w.alloc (.cells cs 9)) a ∧ w.heap.size ≠ x.g ∧ ∀ i, i < cs.size → ∃ s, (w.alloc (.cells cs 9)).cell? ⟨w.heap.size, i, none⟩ = some (.string s) := by
  refine ⟨h.below ((Below.refl _ _).alloc (Nat.le_refl _) _), by have := h.lt; omega, fun i hi => ?_⟩
  obtain ⟨s, hs⟩ := hc i hi
  exact ⟨s, (cell_of (heap_alloc_new w _) i).trans hs⟩
theorem take_lit (x : Cx) (hx : x.ok) (w : World) (a : Nat) (h : x.at w a) (ss : List ByteArray) (h100 : ss.length ≤ 100) :
    Calls Try.prog 81 #[.pointer (some ⟨x.g, 0, none⟩), .slice (some ⟨w.heap.size, 0, none⟩) ss.length ss.length] (w.alloc (.cells (ss.map Value.string).toArray 9)) fun e w' => x.tk w a e w' := by
  obtain ⟨h1, h2, h3⟩ := lit_cells x w a h (ss.map Value.string).toArray (fun i hi => by
    have hi' : i < ss.length := by simpa using hi
    exact ⟨ss[i], by simp [hi']⟩)
  refine (take_any x hx _ a _ ss.length h1 h2 h100 (fun i hi => h3 i (by simpa using hi))).mono ?_
  rintro e w' ⟨s, a', he, hs, h4, k4⟩
  exact ⟨s, a', he, hs, h4, (Cx.kp.of_below ((Below.refl _ _).alloc (Nat.le_refl _) _)).trans k4⟩
theorem must_lit (x : Cx) (hx : x.ok) (w : World) (a : Nat) (h : x.at w a) (ss : List ByteArray) (h100 : ss.length ≤ 100) :
    Calls Try.prog 93 #[.pointer (some ⟨x.g, 0, none⟩), .slice (some ⟨w.heap.size, 0, none⟩) ss.length ss.length] (w.alloc (.cells (ss.map Value.string).toArray 9)) fun e w' => x.tk w a e w' := by
  obtain ⟨h1, h2, h3⟩ := lit_cells x w a h (ss.map Value.string).toArray (fun i hi => by
    have hi' : i < ss.length := by simpa using hi
    exact ⟨ss[i], by simp [hi']⟩)
  refine (must_any x hx _ a _ ss.length h1 h2 h100 (fun i hi => h3 i (by simpa using hi))).mono ?_
  rintro e w' ⟨s, a', he, hs, h4, k4⟩
  exact ⟨s, a', he, hs, h4, (Cx.kp.of_below ((Below.refl _ _).alloc (Nat.le_refl _) _)).trans k4⟩
end Go.Proofs.Ytaddhackggbdkaa
/-! Expressions come back: the parts of the parser that are no road back into it; no condition. -/
namespace Go.Proofs.Ytaddhackggbdkaa
open Go.RowKit
set_option maxRecDepth 100000
/-- An expression's parts; what its row leads to is not told. -/
structure Ex where
  k : Int
  b : Bool
  m : Int
  s : Int
  t : ByteArray
  lo : Bool
  hi : Bool
  A : Option Addr
  n : Nat
  c : Nat
def RetE (e : Ending) : Prop := ∃ y : Ex, e = .returned (.agg #[.int .i64 y.k, .bool y.b, .int .i64 y.m, .int .i64 y.s, .string y.t, .bool y.lo, .bool y.hi, .slice y.A y.n y.c])
theorem retE (y : Ex) : RetE (.returned (.agg #[.int .i64 y.k, .bool y.b, .int .i64 y.m, .int .i64 y.s, .string y.t, .bool y.lo, .bool y.hi, .slice y.A y.n y.c])) := ⟨y, rfl⟩
theorem put8 {w : World} {g : Nat} {t : TypeId} {x0 x1 x2 x3 x4 x5 x6 x7 : Value} (h : w.heap[g]? = some (.cells #[x0, x1, x2, x3, x4, x5, x6, x7] t (0, 0))) (y0 y1 y2 y3 y4 y5 y6 y7 : Value) :
    ((((((((w.setCell ⟨g, 0, none⟩ y0).setCell ⟨g, 1, none⟩ y1).setCell ⟨g, 2, none⟩ y2).setCell ⟨g, 3, none⟩ y3).setCell ⟨g, 4, none⟩ y4).setCell ⟨g, 5, none⟩ y5).setCell ⟨g, 6, none⟩ y6).setCell ⟨g, 7, none⟩ y7).heap[g]? = some (.cells #[y0, y1, y2, y3, y4, y5, y6, y7] t (0, 0)) := by
  simpa using blk_set (blk_set (blk_set (blk_set (blk_set (blk_set (blk_set (blk_set h 0 y0) 1 y1) 2 y2) 3 y3) 4 y4) 5 y5) 6 y6) 7 y7
theorem bin_any (o : ByteArray) (y z : Ex) (w : World) : Calls Try.prog 82 #[.string o, .agg #[.int .i64 y.k, .bool y.b, .int .i64 y.m, .int .i64 y.s, .string y.t, .bool y.lo, .bool y.hi, .slice y.A y.n y.c], .agg #[.int .i64 z.k, .bool z.b, .int .i64 z.m, .int .i64 z.s, .string z.t, .bool z.lo, .bool z.hi, .slice z.A z.n z.c]] w
    fun e w' => RetE e ∧ Below w.heap.size w w' := by
  go_enter Try.func82, Try.ntmps82
  go_wp2_with fail
  go_returns
  exact ⟨⟨⟨_, _, _, _, _, _, _, _, _, _⟩, rfl⟩, by go_grown⟩
end Go.Proofs.Ytaddhackggbdkaa
