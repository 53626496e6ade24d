/- The walks of the laws' copying of plain data. -/
import Derived.Test.YtnmknkdbeccmhaaB6
namespace Go.Proofs.Ytnmknkdbeccmhaa
open Go.RowKit
set_option linter.unusedSimpArgs false

set_option maxRecDepth 100000 in
set_option maxHeartbeats 2000000 in
theorem toStewService_c (s : Svc) (w : World) : Calls Try.prog 123 #[.agg #[.string s.name, .int .i64 s.version, .bool s.gone, .int .i64 s.image, .int .i64 s.want, .int .i64 s.down, .int .i64 s.over, .int .i64 s.next, .int .i64 s.per, .int .i64 s.least, .int .i64 s.most, .int .i64 s.load, .int .i64 s.cool]] w fun e w' => e = .returned (.agg #[.string s.name, .int .i64 s.version, .bool s.gone, .int .i64 s.image, .int .i64 s.want, .int .i64 s.down, .int .i64 s.over, .int .i64 s.next, .int .i64 s.per, .int .i64 s.least, .int .i64 s.most, .int .i64 s.load, .int .i64 s.cool]) ∧ Grow w w' := by
  go_enter Try.func123, Try.ntmps123
  go_wp2
  exact bodyPost_ret (v := .agg #[.string s.name, .int .i64 s.version, .bool s.gone, .int .i64 s.image, .int .i64 s.want, .int .i64 s.down, .int .i64 s.over, .int .i64 s.next, .int .i64 s.per, .int .i64 s.least, .int .i64 s.most, .int .i64 s.load, .int .i64 s.cool]) (by simp [results, Try.results123, go_sem]) rfl ⟨rfl, (((Grow.refl _).alloc _).alloc _).alloc _⟩

set_option maxRecDepth 100000 in
set_option maxHeartbeats 2000000 in
theorem toStewCopy_c (s : Cpy) (w : World) : Calls Try.prog 124 #[.agg #[.string s.service, .int .i64 s.number, .int .i64 s.version, .int .i64 s.image, .int .i64 s.state, .bool s.ending, .string s.berth]] w fun e w' => e = .returned (.agg #[.string s.service, .int .i64 s.number, .int .i64 s.version, .int .i64 s.image, .int .i64 s.state, .bool s.ending, .string s.berth]) ∧ Grow w w' := by
  go_enter Try.func124, Try.ntmps124
  go_wp2
  exact bodyPost_ret (v := .agg #[.string s.service, .int .i64 s.number, .int .i64 s.version, .int .i64 s.image, .int .i64 s.state, .bool s.ending, .string s.berth]) (by simp [results, Try.results124, go_sem]) rfl ⟨rfl, (((Grow.refl _).alloc _).alloc _).alloc _⟩

set_option maxRecDepth 100000 in
set_option maxHeartbeats 2000000 in
theorem toStewBerth_c (s : Brt) (w : World) : Calls Try.prog 125 #[.agg #[.string s.name, .bool s.drain]] w fun e w' => e = .returned (.agg #[.string s.name, .bool s.drain]) ∧ Grow w w' := by
  go_enter Try.func125, Try.ntmps125
  go_wp2
  exact bodyPost_ret (v := .agg #[.string s.name, .bool s.drain]) (by simp [results, Try.results125, go_sem]) rfl ⟨rfl, (((Grow.refl _).alloc _).alloc _).alloc _⟩
end Go.Proofs.Ytnmknkdbeccmhaa
