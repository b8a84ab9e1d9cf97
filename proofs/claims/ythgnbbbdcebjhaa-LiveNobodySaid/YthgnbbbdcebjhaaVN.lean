/- law11.awake; LiveNobody. No conditions. -/
import Derived.Test.YthgnbbbdcebjhaaVM
namespace Go.Proofs.Ythgnbbbdcebjhaa
open Go Go.RowKit Go.BigFrame
set_option linter.unusedVariables false
set_option linter.unusedSimpArgs false

set_option maxHeartbeats 4000000 in
set_option maxRecDepth 100000 in
theorem awake11_any (w : World) : Calls Try.prog 16 #[] w (RBool true w) := by
  have HN := Lib.hid (lNew_ok 10 5 (by omega) (by omega) (by omega) (by omega) w)
  go_enter Try.func16, Try.ntmps16
  go_wp2_with (go_at_call 45; refine HN.out.mono ?_)
  rintro e w1 ⟨lb, tb, own, ptr, rfl, hL, hx, hlb, hf⟩
  have S1 : Hid (LvS w [] lb tb (hostOf 10 5) [] w1) := Lib.hid ⟨own, ptr, _, _, hL, hx, hf, hlb, (fun g hg => by cases hg), fun b hb => by cases hb⟩
  clear hL hx hlb hf
  have HG := Lib.hid S1.out.graft
  go_wp2_with (go_at_call 6; refine HG.out.mono ?_)
  rintro e w2 ⟨rfl, s2, -⟩
  have S2 := Lib.hid s2
  have HH := Lib.hid s2.hold
  clear s2
  go_wp2_with (go_at_call 4; refine HH.out.mono ?_)
  rintro e w3 ⟨rfl, s3, -⟩
  have S3 := Lib.hid s3
  have HR := Lib.hid s3.rep1
  clear s3
  go_wp2_with (go_at_call 13; refine HR.out.mono ?_)
  rintro e w4 ⟨rfl, s4, -⟩
  have S4 := Lib.hid s4
  have HD := Lib.hid (s4.held rfl)
  clear s4
  go_wp2_with (go_at_call 5; refine HD.out.mono ?_)
  rintro e w5 ⟨rfl, x5⟩
  have S5 := Lib.hid ((S4.out.ext x5).box (.cells #[.int .i64 2, .int .i64 3] 32))
  have hb5 := heap_alloc_new w5 (.cells #[.int .i64 2, .int .i64 3] 32)
  clear x5
  go_upto_region 8 with fail
  obtain ⟨b5, hbe5⟩ : ∃ b, w5.heap.size = b := ⟨_, rfl⟩
  obtain ⟨v5, hv5⟩ : ∃ W : World, W = w5.alloc (.cells #[.int .i64 2, .int .i64 3] 32) := ⟨_, rfl⟩
  rw [hbe5] at S5 hb5 ⊢
  rw [← hv5] at S5 hb5 ⊢
  clear hbe5 hv5
  have HR2 := Lib.hid S5.out.rep2
  have HB5 := Lib.hid hb5
  clear hb5
  go_wp2_with (go_at_call 13; refine HR2.out.mono ?_)
  rintro e w6 ⟨rfl, s6, k6⟩
  have HB6 := Lib.hid (k6 b5 _ (by simp) HB5.out)
  have S6 := Lib.hid s6
  have HD2 := Lib.hid (s6.held rfl)
  clear s6 k6
  go_wp2_with (go_at_call 5; refine HD2.out.mono ?_)
  rintro e w7 ⟨rfl, x7⟩
  have S7 := Lib.hid ((S6.out.ext x7).box (.cells #[.int .i64 2, .int .i64 0] 32))
  have hb7 := heap_alloc_new w7 (.cells #[.int .i64 2, .int .i64 0] 32)
  have hb67 := ((Ext.refl w7).alloc (.cells #[.int .i64 2, .int .i64 0] 32)).block (x7.block HB6.out)
  clear x7
  go_upto_region 10 with fail
  obtain ⟨b7, hbe7⟩ : ∃ b, w7.heap.size = b := ⟨_, rfl⟩
  obtain ⟨v7, hv7⟩ : ∃ W : World, W = w7.alloc (.cells #[.int .i64 2, .int .i64 0] 32) := ⟨_, rfl⟩
  rw [hbe7] at S7 hb7 ⊢
  rw [← hv7] at S7 hb7 hb67 ⊢
  clear hbe7 hv7
  have HRM := Lib.hid S7.out.rem
  have HB7 := Lib.hid hb7
  have HB67 := Lib.hid hb67
  clear hb7 hb67
  go_wp2_with (go_at_call 11; refine HRM.out.mono ?_)
  rintro e w8 ⟨rfl, s8, k8⟩
  have HB8 := Lib.hid (k8 b5 _ (by simp) HB67.out)
  have HB78 := Lib.hid (k8 b7 _ (by simp) HB7.out)
  have S8 := Lib.hid s8
  have HD3 := Lib.hid (s8.held rfl)
  clear s8 k8
  go_wp2_with (go_at_call 5; refine HD3.out.mono ?_)
  rintro e w9 ⟨rfl, x9⟩
  have xa := (Ext.refl w9).alloc (.cells #[.int .i64 0, .int .i64 0] 32)
  have hb9 := heap_alloc_new w9 (.cells #[.int .i64 0, .int .i64 0] 32)
  have p5 := xa.block (x9.block HB8.out)
  have p7 := xa.block (x9.block HB78.out)
  have S9 := Lib.hid ((S8.out.ext x9).ext xa)
  go_upto_region 12 with fail
  obtain ⟨b9, hbe9⟩ : ∃ b, w9.heap.size = b := ⟨_, rfl⟩
  obtain ⟨v9, hv9⟩ : ∃ W : World, W = w9.alloc (.cells #[.int .i64 0, .int .i64 0] 32) := ⟨_, rfl⟩
  rw [hbe9] at hb9 ⊢
  rw [← hv9] at S9 hb9 p5 p7 ⊢
  have c50 := cellOf p5 (i := 0) rfl
  have c51 := cellOf p5 (i := 1) rfl
  have c70 := cellOf p7 (i := 0) rfl
  have c71 := cellOf p7 (i := 1) rfl
  have c90 := cellOf hb9 (i := 0) rfl
  have c91 := cellOf hb9 (i := 1) rfl
  clear x9 xa hb9 p5 p7 hbe9 hv9
  go_wp2_with fail
  go_ret
  obtain ⟨_, _, _, _, _, h2, _⟩ := S9.out
  exact ⟨rfl, h2⟩
end Go.Proofs.Ythgnbbbdcebjhaa
