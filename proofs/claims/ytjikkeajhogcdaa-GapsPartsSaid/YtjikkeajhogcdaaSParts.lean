/- GapsParts: what a whole that is parted answers: plain Lean over the printed model, no machine. -/
import Derived.Test.YtjikkeajhogcdaaSOv
import Derived.Test.YtjikkeajhogcdaaSPartsDef
import Derived.Laws.Bits128
namespace Go.Proofs.Ytjikkeajhogcdaa
open Go.RowKit Go.Proofs.YtjikkeajhogcdaaW.PrintWords Go.Proofs.YtjikkeajhogcdaaW.PrintLast Go.Proofs.YtjikkeajhogcdaaW.PrintMore PGapsTells
/-- S parts the numbers from a up to b. -/
def Tile : Int → List (Int × Int) → Int → Prop
  | a, [], b => a = b
  | a, (s, e) :: S, b => s = a ∧ a ≤ e ∧ Tile (e + 1) S b
theorem Tile.snoc : ∀ {S : List (Int × Int)} {a b e : Int}, Tile a S b → b ≤ e → Tile a (S ++ [(b, e)]) (e + 1)
  | [], a, b, e, h, h' => by
    have h : a = b := h
    exact ⟨h.symm, by omega, rfl⟩
  | (s, e') :: S, a, b, e, ⟨h1, h2, h3⟩, h' => ⟨h1, h2, Tile.snoc h3 h'⟩
theorem Tile.le : ∀ {S : List (Int × Int)} {a b : Int}, Tile a S b → a ≤ b
  | [], a, b, h => by
    have h : a = b := h
    omega
  | (s, e) :: S, a, b, ⟨h1, h2, h3⟩ => by
    have := Tile.le h3
    omega
theorem Tile.in : ∀ {S : List (Int × Int)} {a b : Int}, Tile a S b → ∀ t ∈ S, a ≤ t.1 ∧ t.1 ≤ t.2 ∧ t.2 < b
  | (s, e) :: S, a, b, ⟨h1, h2, h3⟩, t, ht => by
    have hle := h3.le
    rcases List.mem_cons.1 ht with rfl | ht
    · exact ⟨by show a ≤ s; omega, by show s ≤ e; omega, by show e < b; omega⟩
    · have := Tile.in h3 t ht
      omega
theorem Tile.has : ∀ {S : List (Int × Int)} {a b : Int}, Tile a S b → ∀ x, a ≤ x → x < b → ∃ t ∈ S, t.1 ≤ x ∧ x ≤ t.2
  | [], a, b, h, x, h1, h2 => by
    have h : a = b := h
    omega
  | (s, e) :: S, a, b, ⟨h1, h2, h3⟩, x, hx1, hx2 => by
    rcases Int.lt_or_le e x with h | h
    · obtain ⟨t, ht, h4⟩ := Tile.has h3 x (by omega) hx2
      exact ⟨t, List.mem_cons_of_mem _ ht, h4⟩
    · exact ⟨(s, e), List.mem_cons_self, by show s ≤ x; omega, h⟩
theorem Tile.split : ∀ {S T : List (Int × Int)} {t : Int × Int} {a b : Int}, Tile a (S ++ t :: T) b → Tile a S t.1 ∧ t.1 ≤ t.2 ∧ Tile (t.2 + 1) T b
  | [], T, (s, e), a, b, ⟨h1, h2, h3⟩ => ⟨h1.symm, by show s ≤ e; omega, h3⟩
  | (s, e) :: S, T, t, a, b, ⟨h1, h2, h3⟩ => by
    obtain ⟨h4, h5, h6⟩ := Tile.split h3
    exact ⟨⟨h1, h2, h4⟩, h5, h6⟩
def mkb (t : Int × Int) : S25 := ⟨[t.1, 0], [t.2, 5]⟩
theorem at2_0 (a b : Int) : at_ [a, b] 0 = a := rfl
theorem at2_1 (a b : Int) : at_ [a, b] 1 = b := rfl
theorem isBox2 {a b : Int} (h0 : 0 ≤ a) (h1 : a ≤ b) (h2 : b ≤ 1000) : IsBox [a, 0] [b, 5] := by
  refine ⟨by simp, by simp, rfl, fun i hi => ?_⟩
  simp at hi
  match i, hi with
  | 0, _ => exact ⟨h0, h1, h2⟩
  | 1, _ => exact ⟨by show (0 : Int) ≤ 0; omega, by show (0 : Int) ≤ 5; omega, by show (5 : Int) ≤ 1000; omega⟩
theorem cov2 (S : List (Int × Int)) (x y : Int) : covB (S.map mkb) [x, y] = true ↔ (0 ≤ y ∧ y ≤ 5) ∧ ∃ t ∈ S, t.1 ≤ x ∧ x ≤ t.2 := by
  unfold covB
  rw [List.any_eq_true]
  constructor
  · rintro ⟨b, hb, h⟩
    obtain ⟨t, ht, rfl⟩ := List.mem_map.1 hb
    rw [inB_iff] at h
    have h0 := h.2 0 (by simp)
    have h1 := h.2 1 (by simp)
    simp only [mkb, at2_0, at2_1] at h0 h1
    exact ⟨h1, t, ht, h0⟩
  · rintro ⟨hy, t, ht, hx⟩
    refine ⟨mkb t, List.mem_map.2 ⟨t, ht, rfl⟩, ?_⟩
    rw [inB_iff]
    refine ⟨rfl, fun i hi => ?_⟩
    simp at hi
    match i, hi with
    | 0, _ => exact hx
    | 1, _ => exact hy
theorem good2 {S : List (Int × Int)} {hi : Int} (h0 : 0 ≤ hi) (h1 : hi ≤ 1000) (hl : S.length ≤ 8) (h : ∀ t ∈ S, 0 ≤ t.1 ∧ t.1 ≤ t.2 ∧ t.2 ≤ hi) : Good (S.map mkb) [0, 0] [hi, 5] := by
  refine ⟨by simpa using hl, isBox2 (Int.le_refl _) h0 h1, fun b hb => ?_⟩
  obtain ⟨t, ht, rfl⟩ := List.mem_map.1 hb
  obtain ⟨a1, a2, a3⟩ := h t ht
  exact ⟨isBox2 a1 a2 (by omega), rfl⟩
theorem bx_map {S : List (Int × Int)} {i : Nat} (h : i < S.length) : bx (S.map mkb) i = mkb S[i] := by
  simp [bx, List.getD, h]
theorem ovIn_none {l : List S25} {i : Nat} : ∀ (n k : Nat), k + n ≤ l.length → (∀ k', k ≤ k' → k' < l.length → meetB (bx l i) (bx l k') = false) → ovIn l i k n = none
  | 0, _, _, _ => rfl
  | n + 1, k, e, h => by
    rw [ovIn, if_neg (by rw [h k (Nat.le_refl _) (by omega)]; decide)]
    exact ovIn_none n (k + 1) (by omega) fun k' h1 h2 => h k' (by omega) h2
theorem ovOut_none {l : List S25} (h : ∀ i k, i < k → k < l.length → meetB (bx l i) (bx l k) = false) : ∀ (n i : Nat), i + n = l.length → ovOut l i n = none
  | 0, _, _ => rfl
  | n + 1, i, e => by
    rw [ovOut, ovIn_none n (i + 1) (by omega) fun k' h1 h2 => h i k' (by omega) h2]
    exact ovOut_none h n (i + 1) (by omega)
theorem tile_apart {S : List (Int × Int)} {a b : Int} (h : Tile a S b) {i k : Nat} (hik : i < k) (hk : k < S.length) : (S[i]'(by omega)).2 < S[k].1 := by
  have hs : S = S.take i ++ (S[i]'(by omega)) :: S.drop (i + 1) := by
    rw [List.getElem_cons_drop, List.take_append_drop]
  rw [hs] at h
  have h2 := h.split.2.2
  have hm : S[k] ∈ S.drop (i + 1) := by
    refine List.mem_iff_getElem.2 ⟨k - (i + 1), by simp; omega, ?_⟩
    rw [List.getElem_drop]
    congr 1
    omega
  have := h2.in _ hm
  omega
theorem part_ov {S : List (Int × Int)} {a b : Int} (h : Tile a S b) : ovOut (S.map mkb) 0 (S.map mkb).length = none := by
  refine ovOut_none (fun i k hik hk => ?_) _ 0 (by omega)
  simp at hk
  rw [bx_map (by omega), bx_map hk]
  have := tile_apart h hik hk
  unfold meetB
  show meetFrom _ _ 0 2 = false
  rw [meetFrom, if_pos]
  simp only [mkb, at2_0]
  unfold mn mx
  split <;> split <;> omega
theorem part_hole {S : List (Int × Int)} {hi : Int} (h0 : 0 ≤ hi) (h1 : hi ≤ 1000) (hl : S.length ≤ 8) (h : Tile 0 S (hi + 1)) : holeF (S.map mkb) [0, 0] [hi, 5] 2 [] = none := by
  have hG := good2 h0 h1 hl (fun t ht => by have := h.in t ht; omega)
  rcases holeF_best (wholeLe hG) 2 [] rfl with ⟨hn, _⟩ | ⟨q, _, hb⟩
  · exact hn
  · obtain ⟨x, hx1, hx2, y, hy1, hy2, hf⟩ := hb.free
    exfalso
    have hx1 : 0 ≤ x := hx1
    have hx2 : x ≤ hi := hx2
    have hc : covB (S.map mkb) [x, y] = false := hf
    rw [Bool.eq_false_iff] at hc
    exact hc ((cov2 S x y).2 ⟨⟨hy1, hy2⟩, h.has x hx1 (by omega)⟩)
theorem part_gone {S T : List (Int × Int)} {t : Int × Int} {hi : Int} (h0 : 0 ≤ hi) (h1 : hi ≤ 1000) (hl : S.length + T.length ≤ 8) (h : Tile 0 (S ++ t :: T) (hi + 1)) : holeF ((S ++ T).map mkb) [0, 0] [hi, 5] 2 [] = some [t.1, 0] ∧ Good ((S ++ T).map mkb) [0, 0] [hi, 5] := by
  obtain ⟨hS, ht, hT⟩ := h.split
  have hG := good2 (S := S ++ T) h0 h1 (by simpa using hl) (fun t' ht' => by
    have := h.in t' (by rcases List.mem_append.1 ht' with h | h <;> simp [h])
    omega)
  have hle := hS.le
  have hle2 := hT.le
  have hc : covB ((S ++ T).map mkb) [t.1, 0] = false := by
    rw [Bool.eq_false_iff]
    intro hc
    obtain ⟨_, t', ht', h2, h3⟩ := (cov2 _ _ _).1 hc
    rcases List.mem_append.1 ht' with hm | hm
    · have := hS.in t' hm
      omega
    · have := hT.in t' hm
      omega
  have hB : Best ((S ++ T).map mkb) [0, 0] [hi, 5] 2 [] [t.1, 0] := by
    refine ⟨t.1, hle, show t.1 ≤ hi by omega, ⟨0, by show (0 : Int) ≤ 0; omega, by show (0 : Int) ≤ 5; omega, ⟨rfl, hc⟩, fun y h2 h3 => ?_⟩, fun y h2 h3 hf => ?_⟩
    · have h2 : 0 ≤ y := h2
      omega
    · obtain ⟨z, hz1, hz2, hf⟩ := hf
      have h2 : 0 ≤ y := h2
      have hc' : covB ((S ++ T).map mkb) [y, z] = false := hf
      rw [Bool.eq_false_iff] at hc'
      obtain ⟨t', ht', h4⟩ := hS.has y h2 h3
      exact hc' ((cov2 _ _ _).2 ⟨⟨hz1, hz2⟩, t', List.mem_append.2 (.inl ht'), h4⟩)
  rcases holeF_best (wholeLe hG) 2 [] rfl with ⟨_, hn⟩ | ⟨q, hq, hb⟩
  · exact absurd hB.free hn
  · rw [hq, hb.one hB]
    exact ⟨rfl, hG⟩
/-- Behind the first look: one part goes. -/
theorem parts_j3 {S : List (Int × Int)} {hi gone : Int} (h0 : 0 ≤ hi) (h1 : hi ≤ 1000) (hl : S.length ≤ 7) (h : Tile 0 S (hi + 1)) (b : Bool) (hb : b = false → 0 ≤ gone ∧ gone < (S.length : Int)) :
    Ev (fun k => dossierlaw9_GapsParts.j3 k gone (S.map mkb) b [0, 0] [hi, 5]) true := by
  cases b with
  | true => exact Ev.succ (fun k => by rw [dossierlaw9_GapsParts.j3, if_pos rfl]) known_ev
  | false =>
    obtain ⟨hg0, hg1⟩ := hb rfl
    obtain ⟨g, rfl⟩ : ∃ g : Nat, gone = g := ⟨gone.toNat, by omega⟩
    have hg : g < S.length := by omega
    have hs : S = S.take g ++ S[g] :: S.drop (g + 1) := by rw [List.getElem_cons_drop, List.take_append_drop]
    obtain ⟨hq, hG⟩ := part_gone (S := S.take g) (T := S.drop (g + 1)) (t := S[g]) h0 h1 (by simp; omega) (by rw [← hs]; exact h)
    have hH := ghole hG
    rw [show ([0, 0] : List Int).length = 2 from rfl, hq] at hH
    have hw := up (show g ≤ 1000000 by omega)
    have hu : ∀ k, dossierlaw9_GapsParts.j3 (k + 1) (g : Int) (S.map mkb) false [0, 0] [hi, 5] = (gaps_Hole.f k ((S.take g ++ S.drop (g + 1)).map mkb) [0, 0] [hi, 5]).bind fun bt => if bt.2 = true then (if (bt.1.length : Int) = 2 then (if 0 < (bt.1.length : Int) then (if 0 < (((mkb S[g]).f0).length : Int) then (if (rd bt.1 0) = (rd ((mkb S[g]).f0) 0) then (if 1 < (bt.1.length : Int) then (if (rd bt.1 1) = 0 then ((dossierlaw9_known.f).bind fun t => (some t)) else (some false)) else (none)) else (some false)) else (none)) else (none)) else (some false)) else (some false) := fun k => by
      rw [dossierlaw9_GapsParts.j3, if_neg (by decide), if_pos (by omega), if_pos (by simpa using hg1)]
      simp only [Option.bind_some, List.nil_append, hw, rd_bx, bx_map hg, List.length_nil, List.length_take, List.length_map, List.length_drop, Int.toNat_natCast]
      rw [if_pos (by omega), if_pos (by omega), if_pos (by omega), if_pos (by omega), if_pos (by omega)]
      simp only [List.map_append, List.map_take, List.map_drop]
    refine Ev.succ hu (Ev.bind hH ?_)
    exact Ev.same (fun k => by simp [ansOf, mkb, rd]) known_ev
theorem parts_end {S : List (Int × Int)} {hi gone frm : Int} (cuts : List Int) (h0 : 0 ≤ hi) (h1 : hi ≤ 1000) (hl : S.length ≤ 6) (h : Tile 0 S frm) (hf : frm ≤ hi) (i : Nat) (hi' : cuts.length ≤ i) :
    Ev (fun k => dossierlaw9_GapsParts.l0 k hi cuts gone (S.map mkb) frm (i : Int)) true := by
  have hT := h.snoc hf
  have hlen : (S ++ [(frm, hi)]).length ≤ 7 := by simp; omega
  have hG := good2 (S := S ++ [(frm, hi)]) h0 h1 (by omega) (fun t ht => by have := hT.in t ht; omega)
  have hH := ghole hG
  rw [show ([0, 0] : List Int).length = 2 from rfl, part_hole h0 h1 (by omega) hT] at hH
  have hO := gov hG
  rw [part_ov hT] at hO
  have hu : ∀ k, dossierlaw9_GapsParts.l0 (k + 1) hi cuts gone (S.map mkb) frm (i : Int) = (gaps_Hole.f k ((S ++ [(frm, hi)]).map mkb) [0, 0] [hi, 5]).bind fun bt => (gaps_Overlap.f k ((S ++ [(frm, hi)]).map mkb)).bind fun bt' => if bt.2 = true then dossierlaw9_GapsParts.j2 k gone ((S ++ [(frm, hi)]).map mkb) true [0, 0] [hi, 5] else dossierlaw9_GapsParts.j2 k gone ((S ++ [(frm, hi)]).map mkb) bt'.2.2 [0, 0] [hi, 5] := fun k => by
    rw [dossierlaw9_GapsParts.l0, if_neg (by omega), if_pos (by simp; omega)]
    simp only [Option.bind_some, List.map_append, List.map_cons, List.map_nil, mkb]
  refine Ev.succ hu (Ev.bind hH (Ev.bind hO ?_))
  refine Ev.same (G := fun k => dossierlaw9_GapsParts.j2 k gone ((S ++ [(frm, hi)]).map mkb) false [0, 0] [hi, 5]) (fun k => rfl) ?_
  by_cases hg : gone < 0
  · exact Ev.succ (fun k => by rw [dossierlaw9_GapsParts.j2, if_neg (by decide), if_pos hg]) (parts_j3 h0 h1 hlen hT true (fun h => by cases h))
  · refine Ev.succ (fun k => by rw [dossierlaw9_GapsParts.j2, if_neg (by decide), if_neg hg]) (parts_j3 h0 h1 hlen hT (decide (gone ≥ (((S ++ [(frm, hi)]).map mkb).length : Int))) fun hd => ?_)
    have := of_decide_eq_false hd
    rw [List.length_map] at this
    omega
theorem parts_l0 {hi gone : Int} (cuts : List Int) (h0 : 0 ≤ hi) (h1 : hi ≤ 1000) (hc : cuts.length ≤ 6) :
    ∀ (n i : Nat) (S : List (Int × Int)) (frm : Int), i + n = cuts.length → S.length ≤ i → Tile 0 S frm → frm ≤ hi → Ev (fun k => dossierlaw9_GapsParts.l0 k hi cuts gone (S.map mkb) frm (i : Int)) true := by
  intro n
  induction n with
  | zero => exact fun i S frm e hl h hf => parts_end cuts h0 h1 (by omega) h hf i (by omega)
  | succ n ih =>
    intro i S frm e hl h hf
    have hle := h.le
    have hw1 : wrap64 (frm + at_ cuts i % 128) = frm + at_ cuts i % 128 := by
      unfold wrap64
      omega
    have hw2 : wrap64 (frm + at_ cuts i % 128 + 1) = frm + at_ cuts i % 128 + 1 := by
      unfold wrap64
      omega
    have hu : ∀ k, dossierlaw9_GapsParts.l0 (k + 1) hi cuts gone (S.map mkb) frm (i : Int) = if frm + at_ cuts i % 128 < hi then dossierlaw9_GapsParts.l0 k hi cuts gone ((S ++ [(frm, frm + at_ cuts i % 128)]).map mkb) (frm + at_ cuts i % 128 + 1) ((i + 1 : Nat) : Int) else dossierlaw9_GapsParts.l0 k hi cuts gone (S.map mkb) frm ((i + 1 : Nat) : Int) := fun k => by
      rw [dossierlaw9_GapsParts.l0, if_pos (by omega), if_pos (by omega)]
      simp only [rd_at, i64_and127, hw1, hw2, up (show i ≤ 1000000 by omega), List.map_append, List.map_cons, List.map_nil, mkb]
      rw [if_pos (show (S.map mkb).length < 2932031007402 by simp; omega)]
    by_cases hlt : frm + at_ cuts i % 128 < hi
    · exact Ev.succ (fun k => by rw [hu, if_pos hlt]) (ih (i + 1) _ _ (by omega) (by simp; omega) (h.snoc (by omega)) (by omega))
    · exact Ev.succ (fun k => by rw [hu, if_neg hlt]) (ih (i + 1) _ _ (by omega) (by omega) h hf)
theorem parts_true (hi : Int) (cuts : List Int) (gone : Int) : ∃ k, dossierlaw9_GapsParts.f k hi cuts gone = some true := by
  apply Ev.get
  have hno : Ev (fun k => dossierlaw9_GapsParts.j0 k hi cuts gone true) true := Ev.succ (G := fun _ => some true) (fun k => by rw [dossierlaw9_GapsParts.j0, if_pos rfl]) (Ev.now _)
  by_cases h0 : hi < 0
  · exact Ev.same (fun k => by rw [dossierlaw9_GapsParts.f, if_pos h0]) hno
  · by_cases h1 : hi > 1000
    · exact Ev.same (fun k => by rw [dossierlaw9_GapsParts.f, if_neg h0, if_pos h1]) hno
    · by_cases h2 : (cuts.length : Int) > 6
      · exact Ev.same (fun k => by rw [dossierlaw9_GapsParts.f, if_neg h0, if_neg h1, if_pos h2]) hno
      · by_cases h3 : gone < -1
        · exact Ev.same (fun k => by rw [dossierlaw9_GapsParts.f, if_neg h0, if_neg h1, if_neg h2, decide_eq_true h3]) hno
        · refine Ev.same (fun k => by rw [dossierlaw9_GapsParts.f, if_neg h0, if_neg h1, if_neg h2, decide_eq_false h3]) (Ev.succ (fun k => by rw [dossierlaw9_GapsParts.j0, if_neg (by decide)]) ?_)
          exact parts_l0 cuts (by omega) (by omega) (by omega) cuts.length 0 [] 0 (by omega) (by simp) rfl (by omega)
end Go.Proofs.Ytjikkeajhogcdaa
