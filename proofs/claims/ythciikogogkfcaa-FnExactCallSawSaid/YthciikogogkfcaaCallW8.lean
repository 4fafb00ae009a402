/- CallOk of the reference, whole. -/
import Derived.Test.YthciikogogkfcaaCallW7
import Derived.Test.YthciikogogkfcaaCallW6
namespace Go.Proofs.Ythciikogogkfcaa
open Go.RowKit Go.Deep
set_option linter.unusedVariables false

theorem CallOk_spec (x : Mc) (t : Int) (w : World) (hin : CallIn w x) (hf : FewC x) :
    Calls Try.prog 35 #[.agg #[.int .i64 x.client, .int .i64 x.num, .int .i64 x.kind, .slice x.ka x.keys.length x.kc, .int .i64 x.val, .slice x.xa x.ctx.length x.xc, .int .i64 x.beg, .int .i64 x.fin, .bool x.over, .int .i64 x.time, .int .i64 x.site, .slice x.ga x.got.length x.gc, .slice x.na x.needs.length x.nc], .int .i64 t] w (Says (callOkB x t) w) := by
  rw [← callOk_eq]
  obtain ⟨client, num, kind, keys, val, ctx, beg, fin, ovr, time, site, got, needs, ka, kc, xa, xc, ga, gc, na, nc⟩ := x
  by_cases h1 : kind = 1
  · exact CallOk_spec_1 client num kind keys val ctx beg fin ovr time site got needs ka kc xa xc ga gc na nc t w hin hf h1
  · by_cases h2 : kind = 2
    · exact CallOk_spec_2 client num kind keys val ctx beg fin ovr time site got needs ka kc xa xc ga gc na nc t w hin hf h2
    · exact CallOk_spec_0 client num kind keys val ctx beg fin ovr time site got needs ka kc xa xc ga gc na nc t w hin hf h1 h2
end Go.Proofs.Ythciikogogkfcaa
