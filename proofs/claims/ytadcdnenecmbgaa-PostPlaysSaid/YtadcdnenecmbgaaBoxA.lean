/- Put, Take and Len of a Box, walked: what they answer, and what becomes of the channel's block; conditions: the box's own block and its channel's block lie in the world, or the box is nil. -/
import Derived.Test.YtadcdnenecmbgaaChecked
import Derived.Conc.LoneCalls
import Derived.Conc.LoneSelect
import Derived.Conc.LoneSelectN
import Derived.KernelRfl
import Derived.Laws.Rows
import Derived.WalkKit
import Derived.WalkSpells
namespace Go.Proofs.Ytadcdnenecmbgaa
open Go.Conc Go.RowKit

theorem cell_box {w : World} {b : Nat} {v : Value} {t : TypeId} (h : w.heap[b]? = some (.cells #[v] t (0, 0))) : w.cell? ⟨b, 0, none⟩ = some v := by
  simp [World.cell?, h]
theorem buf_head (v : Value) (L : List Value) : (v :: L).toArray.getD 0 undef = v := rfl
theorem buf_push (v : Value) (L : List Value) : L.toArray.push v = (L ++ [v]).toArray := by simp

theorem len_int (b c cap s r : Nat) (L : List Value) (w : World) (hb : w.heap[b]? = some (.cells #[.chan (some c)] 56 (0, 0)))
    (hc : w.heap[c]? = some (.chan cap L.toArray false s r false)) :
    Calls Try.prog 11 #[.pointer (some ⟨b, 0, none⟩)] w fun e w' => e = .returned (.int .i64 (L.length : Nat)) ∧ w = w' := by
  have hcell := cell_box hb
  have hlen := fun ty => run_len_chan (P := Try.prog) (w := w) 54 ty Try.underlying54 hc
  simp only [List.size_toArray] at hlen
  clear hc hb
  go_enter Try.func11, Try.ntmps11
  go_wp2
  go_ret
  exact ⟨rfl, rfl⟩
theorem len_nil_int (w : World) : Calls Try.prog 11 #[.pointer none] w fun e w' => e = .returned (.int .i64 0) ∧ w = w' := by
  go_enter Try.func11, Try.ntmps11
  go_wp2
  go_ret
  exact ⟨rfl, rfl⟩
set_option maxRecDepth 100000 in
/-- Put where there is room. -/
theorem put_room_int (b c cap s r : Nat) (L : List Value) (x : Int) (w : World) (hb : w.heap[b]? = some (.cells #[.chan (some c)] 56 (0, 0)))
    (hc : w.heap[c]? = some (.chan cap L.toArray false s r false)) (hroom : L.length < cap) :
    Calls Try.prog 9 #[.pointer (some ⟨b, 0, none⟩), Value.int .i64 x] w fun e w' => e = .returned (.bool true) ∧ w.setChan c cap (L ++ [Value.int .i64 x]).toArray false (s + 1) r false = w' := by
  have hcell := cell_box hb
  rw [← buf_push]
  refine calls_of_loneTo fun cs => ?_
  have e : Frame.enter Try.prog 9 #[.pointer (some ⟨b, 0, none⟩), Value.int .i64 x] .normal = (base 9).at ⟨#[.pointer (some ⟨b, 0, none⟩), Value.int .i64 x, undef, undef, undef, undef, undef, undef, undef, undef, undef, undef, undef, undef, undef], []⟩ [.code (Try.f9.body.getD .skip)] := by
    simp [Frame.enter, Frame.at, Try.func9, base, Try.f9]
  rw [e]
  refine LoneTo.goes (n := 25) ?_
  simp only [Try.f9, Option.getD_some]
  s_c stepG_seq
  s_reg
  s_op
  s_c stepG_region_end
  s_c stepG_seq
  s_c stepG_seq
  s_reg
  s_op
  s_op
  s_c stepG_region_end
  s_cond false
  s_c stepG_skip
  s_c stepG_seq
  s_c stepG_seq
  s_reg
  s_op
  s_op
  s_op
  s_op
  s_c stepG_region_end
  s_reg
  s_op
  s_c stepG_region_end
  s_c stepG_seq
  s_reg
  s_stop
  refine LoneTo.step (step_lone_select_send_room (c := c) (v := Value.int .i64 x) (z' := Value.int .i64 0) (cap := cap) (buf := L.toArray) (s := s) (r := r) (tm := false)
    (stepG_comm (cases := #[scase c (Value.int .i64 x) (Value.int .i64 0)]) (blocking := false) (shape := .select) (w' := w) rfl rfl (by decide) (by simp [go_sem, execOp, scase, Act.eval])) hc (by simpa using hroom)) ?_
  rw [Frame.finish_at]
  walk_nrm
  refine LoneTo.goes (n := 13) ?_
  s_op
  s_op
  s_c stepG_region_end
  s_c stepG_block
  s_cond true
  s_c stepG_seq
  s_reg
  s_op
  s_c stepG_region_end
  s_c stepG_ret'
  s_stop
  exact LoneTo.done ⟨.returned (.bool true), _, rfl, ⟨rfl, rfl⟩, rfl, rfl, rfl, rfl, _, Try.func9, by simp [results, Try.f9, Frame.at]⟩
set_option maxRecDepth 100000 in
/-- Put where there is no room. -/
theorem put_full_int (b c cap s r : Nat) (L : List Value) (x : Int) (w : World) (hb : w.heap[b]? = some (.cells #[.chan (some c)] 56 (0, 0)))
    (hc : w.heap[c]? = some (.chan cap L.toArray false s r false)) (hfull : cap ≤ L.length) :
    Calls Try.prog 9 #[.pointer (some ⟨b, 0, none⟩), Value.int .i64 x] w fun e w' => e = .returned (.bool false) ∧ w = w' := by
  have hcell := cell_box hb
  refine calls_of_loneTo fun cs => ?_
  have e : Frame.enter Try.prog 9 #[.pointer (some ⟨b, 0, none⟩), Value.int .i64 x] .normal = (base 9).at ⟨#[.pointer (some ⟨b, 0, none⟩), Value.int .i64 x, undef, undef, undef, undef, undef, undef, undef, undef, undef, undef, undef, undef, undef], []⟩ [.code (Try.f9.body.getD .skip)] := by
    simp [Frame.enter, Frame.at, Try.func9, base, Try.f9]
  rw [e]
  refine LoneTo.goes (n := 25) ?_
  simp only [Try.f9, Option.getD_some]
  s_c stepG_seq
  s_reg
  s_op
  s_c stepG_region_end
  s_c stepG_seq
  s_c stepG_seq
  s_reg
  s_op
  s_op
  s_c stepG_region_end
  s_cond false
  s_c stepG_skip
  s_c stepG_seq
  s_c stepG_seq
  s_reg
  s_op
  s_op
  s_op
  s_op
  s_c stepG_region_end
  s_reg
  s_op
  s_c stepG_region_end
  s_c stepG_seq
  s_reg
  s_stop
  refine LoneTo.step (step_lone_select_send_full (c := c) (v := Value.int .i64 x) (z' := Value.int .i64 0) (cap := cap) (buf := L.toArray) (s := s) (r := r) (tm := false)
    (stepG_comm (cases := #[scase c (Value.int .i64 x) (Value.int .i64 0)]) (blocking := false) (shape := .select) (w' := w) rfl rfl (by decide) (by simp [go_sem, execOp, scase, Act.eval])) hc (by simpa using hfull)) ?_
  rw [Frame.finish_at]
  walk_nrm
  refine LoneTo.goes (n := 13) ?_
  s_op
  s_op
  s_c stepG_region_end
  s_c stepG_block
  s_cond false
  s_c stepG_seq
  s_reg
  s_op
  s_c stepG_region_end
  s_c stepG_ret'
  s_stop
  exact LoneTo.done ⟨.returned (.bool false), _, rfl, ⟨rfl, rfl⟩, rfl, rfl, rfl, rfl, _, Try.func9, by simp [results, Try.f9, Frame.at]⟩
theorem put_nil_int (x : Int) (w : World) : Calls Try.prog 9 #[.pointer none, Value.int .i64 x] w fun e w' => e = .returned (.bool false) ∧ w = w' := by
  go_enter Try.func9, Try.ntmps9
  go_wp2
  go_ret
  exact ⟨rfl, rfl⟩
set_option maxRecDepth 100000 in
/-- Take where something lies there. -/
theorem take_some_int (b c cap s r : Nat) (L : List Value) (x : Int) (w : World) (hb : w.heap[b]? = some (.cells #[.chan (some c)] 56 (0, 0)))
    (hc : w.heap[c]? = some (.chan cap (Value.int .i64 x :: L).toArray false s r false)) :
    Calls Try.prog 10 #[.pointer (some ⟨b, 0, none⟩)] w fun e w' => e = .returned (.tuple #[Value.int .i64 x, .bool true]) ∧ w.setChan c cap L.toArray false s (r + 1) false = w' := by
  have hcell := cell_box hb
  refine calls_of_loneTo fun cs => ?_
  have e : Frame.enter Try.prog 10 #[.pointer (some ⟨b, 0, none⟩)] .normal = (base 10).at ⟨#[.pointer (some ⟨b, 0, none⟩), undef, undef, undef, undef, undef, undef, undef, undef, undef, undef, undef, undef, undef, undef, undef, undef], []⟩ [.code (Try.f10.body.getD .skip)] := by
    simp [Frame.enter, Frame.at, Try.func10, base, Try.f10]
  rw [e]
  refine LoneTo.goes (n := 25) ?_
  simp only [Try.f10, Option.getD_some]
  s_c stepG_seq
  s_reg
  s_op
  s_op
  s_c stepG_region_end
  s_c stepG_seq
  s_c stepG_seq
  s_reg
  s_op
  s_op
  s_c stepG_region_end
  s_cond false
  s_c stepG_skip
  s_c stepG_seq
  s_reg
  s_op
  s_op
  s_op
  s_op
  s_c stepG_region_end
  s_c stepG_seq
  s_reg
  s_stop
  refine LoneTo.step (step_lone_select_recv_buf (c := c) (z := Value.int .i64 0) (cap := cap) (buf := (Value.int .i64 x :: L).toArray) (closed := false) (s := s) (r := r) (tm := false)
    (stepG_comm (cases := #[rcase c (Value.int .i64 0)]) (blocking := false) (shape := .select) (w' := w) rfl rfl (by decide) (by simp [go_sem, execOp, rcase, Act.eval])) hc (by simp)) ?_
  rw [Frame.finish_at, buf_head]
  walk_nrm
  refine LoneTo.goes (n := 20) ?_
  s_op
  s_op
  s_c stepG_region_end
  s_c stepG_block
  s_cond true
  s_c stepG_seq
  s_reg
  s_op
  s_op
  s_c stepG_region_end
  s_c stepG_seq
  s_reg
  s_op
  s_op
  s_op
  s_c stepG_region_end
  s_c stepG_ret'
  s_stop
  exact LoneTo.done ⟨.returned (.tuple #[Value.int .i64 x, .bool true]), _, rfl, ⟨rfl, rfl⟩, rfl, rfl, rfl, rfl, _, Try.func10, by simp [results, Try.f10, Frame.at]⟩
set_option maxRecDepth 100000 in
/-- Take where nothing lies there. -/
theorem take_none_int (b c cap s r : Nat) (w : World) (hb : w.heap[b]? = some (.cells #[.chan (some c)] 56 (0, 0)))
    (hc : w.heap[c]? = some (.chan cap ([] : List Value).toArray false s r false)) :
    Calls Try.prog 10 #[.pointer (some ⟨b, 0, none⟩)] w fun e w' => e = .returned (.tuple #[Value.int .i64 0, .bool false]) ∧ w = w' := by
  have hcell := cell_box hb
  refine calls_of_loneTo fun cs => ?_
  have e : Frame.enter Try.prog 10 #[.pointer (some ⟨b, 0, none⟩)] .normal = (base 10).at ⟨#[.pointer (some ⟨b, 0, none⟩), undef, undef, undef, undef, undef, undef, undef, undef, undef, undef, undef, undef, undef, undef, undef, undef], []⟩ [.code (Try.f10.body.getD .skip)] := by
    simp [Frame.enter, Frame.at, Try.func10, base, Try.f10]
  rw [e]
  refine LoneTo.goes (n := 25) ?_
  simp only [Try.f10, Option.getD_some]
  s_c stepG_seq
  s_reg
  s_op
  s_op
  s_c stepG_region_end
  s_c stepG_seq
  s_c stepG_seq
  s_reg
  s_op
  s_op
  s_c stepG_region_end
  s_cond false
  s_c stepG_skip
  s_c stepG_seq
  s_reg
  s_op
  s_op
  s_op
  s_op
  s_c stepG_region_end
  s_c stepG_seq
  s_reg
  s_stop
  refine LoneTo.step (step_lone_select_default (c := c) (z := Value.int .i64 0) (cap := cap) (s := s) (r := r) (tm := false)
    (stepG_comm (cases := #[rcase c (Value.int .i64 0)]) (blocking := false) (shape := .select) (w' := w) rfl rfl (by decide) (by simp [go_sem, execOp, rcase, Act.eval])) hc) ?_
  rw [Frame.finish_at]
  walk_nrm
  refine LoneTo.goes (n := 20) ?_
  s_op
  s_op
  s_c stepG_region_end
  s_c stepG_block
  s_cond false
  s_c stepG_seq
  s_reg
  s_op
  s_op
  s_op
  s_c stepG_region_end
  s_c stepG_ret'
  s_stop
  exact LoneTo.done ⟨.returned (.tuple #[Value.int .i64 0, .bool false]), _, rfl, ⟨rfl, rfl⟩, rfl, rfl, rfl, rfl, _, Try.func10, by simp [results, Try.f10, Frame.at]⟩
theorem take_nil_int (w : World) : Calls Try.prog 10 #[.pointer none] w fun e w' => e = .returned (.tuple #[Value.int .i64 0, .bool false]) ∧ w = w' := by
  go_enter Try.func10, Try.ntmps10
  go_wp2
  go_ret2
  exact ⟨rfl, rfl⟩

theorem len_str (b c cap s r : Nat) (L : List Value) (w : World) (hb : w.heap[b]? = some (.cells #[.chan (some c)] 59 (0, 0)))
    (hc : w.heap[c]? = some (.chan cap L.toArray false s r false)) :
    Calls Try.prog 16 #[.pointer (some ⟨b, 0, none⟩)] w fun e w' => e = .returned (.int .i64 (L.length : Nat)) ∧ w = w' := by
  have hcell := cell_box hb
  have hlen := fun ty => run_len_chan (P := Try.prog) (w := w) 57 ty Try.underlying57 hc
  simp only [List.size_toArray] at hlen
  clear hc hb
  go_enter Try.func16, Try.ntmps16
  go_wp2
  go_ret
  exact ⟨rfl, rfl⟩
theorem len_nil_str (w : World) : Calls Try.prog 16 #[.pointer none] w fun e w' => e = .returned (.int .i64 0) ∧ w = w' := by
  go_enter Try.func16, Try.ntmps16
  go_wp2
  go_ret
  exact ⟨rfl, rfl⟩
set_option maxRecDepth 100000 in
/-- Put where there is room. -/
theorem put_room_str (b c cap s r : Nat) (L : List Value) (x : ByteArray) (w : World) (hb : w.heap[b]? = some (.cells #[.chan (some c)] 59 (0, 0)))
    (hc : w.heap[c]? = some (.chan cap L.toArray false s r false)) (hroom : L.length < cap) :
    Calls Try.prog 14 #[.pointer (some ⟨b, 0, none⟩), Value.string x] w fun e w' => e = .returned (.bool true) ∧ w.setChan c cap (L ++ [Value.string x]).toArray false (s + 1) r false = w' := by
  have hcell := cell_box hb
  rw [← buf_push]
  refine calls_of_loneTo fun cs => ?_
  have e : Frame.enter Try.prog 14 #[.pointer (some ⟨b, 0, none⟩), Value.string x] .normal = (base 14).at ⟨#[.pointer (some ⟨b, 0, none⟩), Value.string x, undef, undef, undef, undef, undef, undef, undef, undef, undef, undef, undef, undef, undef], []⟩ [.code (Try.f14.body.getD .skip)] := by
    simp [Frame.enter, Frame.at, Try.func14, base, Try.f14]
  rw [e]
  refine LoneTo.goes (n := 25) ?_
  simp only [Try.f14, Option.getD_some]
  s_c stepG_seq
  s_reg
  s_op
  s_c stepG_region_end
  s_c stepG_seq
  s_c stepG_seq
  s_reg
  s_op
  s_op
  s_c stepG_region_end
  s_cond false
  s_c stepG_skip
  s_c stepG_seq
  s_c stepG_seq
  s_reg
  s_op
  s_op
  s_op
  s_op
  s_c stepG_region_end
  s_reg
  s_op
  s_c stepG_region_end
  s_c stepG_seq
  s_reg
  s_stop
  refine LoneTo.step (step_lone_select_send_room (c := c) (v := Value.string x) (z' := Value.string ⟨#[]⟩) (cap := cap) (buf := L.toArray) (s := s) (r := r) (tm := false)
    (stepG_comm (cases := #[scase c (Value.string x) (Value.string ⟨#[]⟩)]) (blocking := false) (shape := .select) (w' := w) rfl rfl (by decide) (by simp [go_sem, execOp, scase, Act.eval])) hc (by simpa using hroom)) ?_
  rw [Frame.finish_at]
  walk_nrm
  refine LoneTo.goes (n := 13) ?_
  s_op
  s_op
  s_c stepG_region_end
  s_c stepG_block
  s_cond true
  s_c stepG_seq
  s_reg
  s_op
  s_c stepG_region_end
  s_c stepG_ret'
  s_stop
  exact LoneTo.done ⟨.returned (.bool true), _, rfl, ⟨rfl, rfl⟩, rfl, rfl, rfl, rfl, _, Try.func14, by simp [results, Try.f14, Frame.at]⟩
set_option maxRecDepth 100000 in
/-- Put where there is no room. -/
theorem put_full_str (b c cap s r : Nat) (L : List Value) (x : ByteArray) (w : World) (hb : w.heap[b]? = some (.cells #[.chan (some c)] 59 (0, 0)))
    (hc : w.heap[c]? = some (.chan cap L.toArray false s r false)) (hfull : cap ≤ L.length) :
    Calls Try.prog 14 #[.pointer (some ⟨b, 0, none⟩), Value.string x] w fun e w' => e = .returned (.bool false) ∧ w = w' := by
  have hcell := cell_box hb
  refine calls_of_loneTo fun cs => ?_
  have e : Frame.enter Try.prog 14 #[.pointer (some ⟨b, 0, none⟩), Value.string x] .normal = (base 14).at ⟨#[.pointer (some ⟨b, 0, none⟩), Value.string x, undef, undef, undef, undef, undef, undef, undef, undef, undef, undef, undef, undef, undef], []⟩ [.code (Try.f14.body.getD .skip)] := by
    simp [Frame.enter, Frame.at, Try.func14, base, Try.f14]
  rw [e]
  refine LoneTo.goes (n := 25) ?_
  simp only [Try.f14, Option.getD_some]
  s_c stepG_seq
  s_reg
  s_op
  s_c stepG_region_end
  s_c stepG_seq
  s_c stepG_seq
  s_reg
  s_op
  s_op
  s_c stepG_region_end
  s_cond false
  s_c stepG_skip
  s_c stepG_seq
  s_c stepG_seq
  s_reg
  s_op
  s_op
  s_op
  s_op
  s_c stepG_region_end
  s_reg
  s_op
  s_c stepG_region_end
  s_c stepG_seq
  s_reg
  s_stop
  refine LoneTo.step (step_lone_select_send_full (c := c) (v := Value.string x) (z' := Value.string ⟨#[]⟩) (cap := cap) (buf := L.toArray) (s := s) (r := r) (tm := false)
    (stepG_comm (cases := #[scase c (Value.string x) (Value.string ⟨#[]⟩)]) (blocking := false) (shape := .select) (w' := w) rfl rfl (by decide) (by simp [go_sem, execOp, scase, Act.eval])) hc (by simpa using hfull)) ?_
  rw [Frame.finish_at]
  walk_nrm
  refine LoneTo.goes (n := 13) ?_
  s_op
  s_op
  s_c stepG_region_end
  s_c stepG_block
  s_cond false
  s_c stepG_seq
  s_reg
  s_op
  s_c stepG_region_end
  s_c stepG_ret'
  s_stop
  exact LoneTo.done ⟨.returned (.bool false), _, rfl, ⟨rfl, rfl⟩, rfl, rfl, rfl, rfl, _, Try.func14, by simp [results, Try.f14, Frame.at]⟩
theorem put_nil_str (x : ByteArray) (w : World) : Calls Try.prog 14 #[.pointer none, Value.string x] w fun e w' => e = .returned (.bool false) ∧ w = w' := by
  go_enter Try.func14, Try.ntmps14
  go_wp2
  go_ret
  exact ⟨rfl, rfl⟩
set_option maxRecDepth 100000 in
/-- Take where something lies there. -/
theorem take_some_str (b c cap s r : Nat) (L : List Value) (x : ByteArray) (w : World) (hb : w.heap[b]? = some (.cells #[.chan (some c)] 59 (0, 0)))
    (hc : w.heap[c]? = some (.chan cap (Value.string x :: L).toArray false s r false)) :
    Calls Try.prog 23 #[.pointer (some ⟨b, 0, none⟩)] w fun e w' => e = .returned (.tuple #[Value.string x, .bool true]) ∧ w.setChan c cap L.toArray false s (r + 1) false = w' := by
  have hcell := cell_box hb
  refine calls_of_loneTo fun cs => ?_
  have e : Frame.enter Try.prog 23 #[.pointer (some ⟨b, 0, none⟩)] .normal = (base 23).at ⟨#[.pointer (some ⟨b, 0, none⟩), undef, undef, undef, undef, undef, undef, undef, undef, undef, undef, undef, undef, undef, undef, undef, undef], []⟩ [.code (Try.f23.body.getD .skip)] := by
    simp [Frame.enter, Frame.at, Try.func23, base, Try.f23]
  rw [e]
  refine LoneTo.goes (n := 25) ?_
  simp only [Try.f23, Option.getD_some]
  s_c stepG_seq
  s_reg
  s_op
  s_op
  s_c stepG_region_end
  s_c stepG_seq
  s_c stepG_seq
  s_reg
  s_op
  s_op
  s_c stepG_region_end
  s_cond false
  s_c stepG_skip
  s_c stepG_seq
  s_reg
  s_op
  s_op
  s_op
  s_op
  s_c stepG_region_end
  s_c stepG_seq
  s_reg
  s_stop
  refine LoneTo.step (step_lone_select_recv_buf (c := c) (z := Value.string ⟨#[]⟩) (cap := cap) (buf := (Value.string x :: L).toArray) (closed := false) (s := s) (r := r) (tm := false)
    (stepG_comm (cases := #[rcase c (Value.string ⟨#[]⟩)]) (blocking := false) (shape := .select) (w' := w) rfl rfl (by decide) (by simp [go_sem, execOp, rcase, Act.eval])) hc (by simp)) ?_
  rw [Frame.finish_at, buf_head]
  walk_nrm
  refine LoneTo.goes (n := 20) ?_
  s_op
  s_op
  s_c stepG_region_end
  s_c stepG_block
  s_cond true
  s_c stepG_seq
  s_reg
  s_op
  s_op
  s_c stepG_region_end
  s_c stepG_seq
  s_reg
  s_op
  s_op
  s_op
  s_c stepG_region_end
  s_c stepG_ret'
  s_stop
  exact LoneTo.done ⟨.returned (.tuple #[Value.string x, .bool true]), _, rfl, ⟨rfl, rfl⟩, rfl, rfl, rfl, rfl, _, Try.func23, by simp [results, Try.f23, Frame.at]⟩
set_option maxRecDepth 100000 in
/-- Take where nothing lies there. -/
theorem take_none_str (b c cap s r : Nat) (w : World) (hb : w.heap[b]? = some (.cells #[.chan (some c)] 59 (0, 0)))
    (hc : w.heap[c]? = some (.chan cap ([] : List Value).toArray false s r false)) :
    Calls Try.prog 23 #[.pointer (some ⟨b, 0, none⟩)] w fun e w' => e = .returned (.tuple #[Value.string ⟨#[]⟩, .bool false]) ∧ w = w' := by
  have hcell := cell_box hb
  refine calls_of_loneTo fun cs => ?_
  have e : Frame.enter Try.prog 23 #[.pointer (some ⟨b, 0, none⟩)] .normal = (base 23).at ⟨#[.pointer (some ⟨b, 0, none⟩), undef, undef, undef, undef, undef, undef, undef, undef, undef, undef, undef, undef, undef, undef, undef, undef], []⟩ [.code (Try.f23.body.getD .skip)] := by
    simp [Frame.enter, Frame.at, Try.func23, base, Try.f23]
  rw [e]
  refine LoneTo.goes (n := 25) ?_
  simp only [Try.f23, Option.getD_some]
  s_c stepG_seq
  s_reg
  s_op
  s_op
  s_c stepG_region_end
  s_c stepG_seq
  s_c stepG_seq
  s_reg
  s_op
  s_op
  s_c stepG_region_end
  s_cond false
  s_c stepG_skip
  s_c stepG_seq
  s_reg
  s_op
  s_op
  s_op
  s_op
  s_c stepG_region_end
  s_c stepG_seq
  s_reg
  s_stop
  refine LoneTo.step (step_lone_select_default (c := c) (z := Value.string ⟨#[]⟩) (cap := cap) (s := s) (r := r) (tm := false)
    (stepG_comm (cases := #[rcase c (Value.string ⟨#[]⟩)]) (blocking := false) (shape := .select) (w' := w) rfl rfl (by decide) (by simp [go_sem, execOp, rcase, Act.eval])) hc) ?_
  rw [Frame.finish_at]
  walk_nrm
  refine LoneTo.goes (n := 20) ?_
  s_op
  s_op
  s_c stepG_region_end
  s_c stepG_block
  s_cond false
  s_c stepG_seq
  s_reg
  s_op
  s_op
  s_op
  s_c stepG_region_end
  s_c stepG_ret'
  s_stop
  exact LoneTo.done ⟨.returned (.tuple #[Value.string ⟨#[]⟩, .bool false]), _, rfl, ⟨rfl, rfl⟩, rfl, rfl, rfl, rfl, _, Try.func23, by simp [results, Try.f23, Frame.at]⟩
theorem take_nil_str (w : World) : Calls Try.prog 23 #[.pointer none] w fun e w' => e = .returned (.tuple #[Value.string ⟨#[]⟩, .bool false]) ∧ w = w' := by
  go_enter Try.func23, Try.ntmps23
  go_wp2
  go_ret2
  exact ⟨rfl, rfl⟩
end Go.Proofs.Ytadcdnenecmbgaa
