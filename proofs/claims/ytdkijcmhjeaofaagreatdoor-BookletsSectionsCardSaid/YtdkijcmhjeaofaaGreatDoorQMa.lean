/- Runs of states.Flat, states.Check and folds.Do at a sheet of 2 by 1 squares, by the kernel. No condition. -/
import Derived.Test.YtdkijcmhjeaofaaGreatDoorQKb
import Derived.KernelRfl
namespace Go.Proofs.YtdkijcmhjeaofaaGreatDoor
open Ex Go.RowKit

set_option maxRecDepth 100000
noncomputable def mf21 : MemR := ⟨46, 0, [.agg [.int .i64 2, .int .i64 1]],
  [],
  .tup [.agg [.int .i64 2, .int .i64 1, .nilSl, .int .u8 0, .int .i64 0, .int .i64 0, .sl 527 0 8 8], .int .i64 0],
  [⟨527, [.int .i64 0, .int .i64 0, .int .u8 0, .sl 441 0 1 1, .int .i64 0, .int .i64 0, .int .u8 1, .sl 453 0 1 1, .int .i64 0, .int .i64 0, .int .u8 2, .sl 465 0 1 1, .int .i64 0, .int .i64 0, .int .u8 3, .sl 477 0 1 1, .int .i64 1, .int .i64 0, .int .u8 0, .sl 489 0 1 1, .int .i64 1, .int .i64 0, .int .u8 1, .sl 501 0 1 1, .int .i64 1, .int .i64 0, .int .u8 2, .sl 513 0 1 1, .int .i64 1, .int .i64 0, .int .u8 3, .sl 525 0 1 1], 113, true⟩, ⟨441, [.int .i64 0], 3, true⟩, ⟨453, [.int .i64 1], 3, true⟩, ⟨465, [.int .i64 2], 3, true⟩, ⟨477, [.int .i64 3], 3, true⟩, ⟨489, [.int .i64 4], 3, true⟩, ⟨501, [.int .i64 5], 3, true⟩, ⟨513, [.int .i64 6], 3, true⟩, ⟨525, [.int .i64 7], 3, true⟩]⟩
theorem mf21_good : goodK mf21 xt0 = true := by kernel_rfl
noncomputable def xmf21 : FuncId → List AV → St → CRes := memR mf21 xt0
theorem xmf21_ok {W : World} (hQ : Qf W) (hT : Tn W) : Known1 W xmf21 := memK hQ hT (xt0_ok hQ hT) mf21_good (xt0_ok hQ hT)
noncomputable def mc21 : MemR := ⟨62, 9, [.agg [.int .i64 2, .int .i64 1, .nilSl, .int .u8 0, .int .i64 0, .int .i64 0, .sl 0 0 8 8]],
  [⟨0, [.int .i64 0, .int .i64 0, .int .u8 0, .sl 1 0 1 1, .int .i64 0, .int .i64 0, .int .u8 1, .sl 2 0 1 1, .int .i64 0, .int .i64 0, .int .u8 2, .sl 3 0 1 1, .int .i64 0, .int .i64 0, .int .u8 3, .sl 4 0 1 1, .int .i64 1, .int .i64 0, .int .u8 0, .sl 5 0 1 1, .int .i64 1, .int .i64 0, .int .u8 1, .sl 6 0 1 1, .int .i64 1, .int .i64 0, .int .u8 2, .sl 7 0 1 1, .int .i64 1, .int .i64 0, .int .u8 3, .sl 8 0 1 1], 113, false⟩, ⟨1, [.int .i64 0], 3, false⟩, ⟨2, [.int .i64 1], 3, false⟩, ⟨3, [.int .i64 2], 3, false⟩, ⟨4, [.int .i64 3], 3, false⟩, ⟨5, [.int .i64 4], 3, false⟩, ⟨6, [.int .i64 5], 3, false⟩, ⟨7, [.int .i64 6], 3, false⟩, ⟨8, [.int .i64 7], 3, false⟩],
  .int .i64 0,
  []⟩
theorem mc21_good : goodK mc21 xmf21 = true := by kernel_rfl
noncomputable def xmc21 : FuncId → List AV → St → CRes := memR mc21 xmf21
theorem xmc21_ok {W : World} (hQ : Qf W) (hT : Tn W) : Known1 W xmc21 := memK hQ hT (xmf21_ok hQ hT) mc21_good (xmf21_ok hQ hT)
noncomputable def mc21a : MemR := ⟨62, 6, [.agg [.int .i64 2, .int .i64 1, .sl 0 0 1 1, .int .u8 0, .int .i64 0, .int .i64 0, .sl 1 0 4 4]],
  [⟨0, [.int .i64 1, .int .u8 0, .int .u8 2], 219, false⟩, ⟨1, [.int .i64 0, .int .i64 0, .int .u8 0, .sl 2 0 2 2, .int .i64 0, .int .i64 0, .int .u8 1, .sl 3 0 2 2, .int .i64 0, .int .i64 0, .int .u8 2, .sl 4 0 2 2, .int .i64 0, .int .i64 0, .int .u8 3, .sl 5 0 2 2], 113, false⟩, ⟨2, [.int .i64 0, .int .i64 4], 3, false⟩, ⟨3, [.int .i64 1, .int .i64 7], 3, false⟩, ⟨4, [.int .i64 2, .int .i64 6], 3, false⟩, ⟨5, [.int .i64 3, .int .i64 5], 3, false⟩],
  .int .i64 0,
  []⟩
theorem mc21a_good : goodK mc21a xmc21 = true := by kernel_rfl
noncomputable def xmc21a : FuncId → List AV → St → CRes := memR mc21a xmc21
theorem xmc21a_ok {W : World} (hQ : Qf W) (hT : Tn W) : Known1 W xmc21a := memK hQ hT (xmc21_ok hQ hT) mc21a_good (xmc21_ok hQ hT)
noncomputable def md21a : MemR := ⟨47, 9, [.agg [.int .i64 2, .int .i64 1, .nilSl, .int .u8 0, .int .i64 0, .int .i64 0, .sl 0 0 8 8], .agg [.int .u8 1, .int .i64 1, .int .u8 1, .bool true]],
  [⟨0, [.int .i64 0, .int .i64 0, .int .u8 0, .sl 1 0 1 1, .int .i64 0, .int .i64 0, .int .u8 1, .sl 2 0 1 1, .int .i64 0, .int .i64 0, .int .u8 2, .sl 3 0 1 1, .int .i64 0, .int .i64 0, .int .u8 3, .sl 4 0 1 1, .int .i64 1, .int .i64 0, .int .u8 0, .sl 5 0 1 1, .int .i64 1, .int .i64 0, .int .u8 1, .sl 6 0 1 1, .int .i64 1, .int .i64 0, .int .u8 2, .sl 7 0 1 1, .int .i64 1, .int .i64 0, .int .u8 3, .sl 8 0 1 1], 113, false⟩, ⟨1, [.int .i64 0], 3, false⟩, ⟨2, [.int .i64 1], 3, false⟩, ⟨3, [.int .i64 2], 3, false⟩, ⟨4, [.int .i64 3], 3, false⟩, ⟨5, [.int .i64 4], 3, false⟩, ⟨6, [.int .i64 5], 3, false⟩, ⟨7, [.int .i64 6], 3, false⟩, ⟨8, [.int .i64 7], 3, false⟩],
  .tup [.agg [.int .i64 2, .int .i64 1, .sl 1230 0 1 1, .int .u8 0, .int .i64 0, .int .i64 0, .sl 1049 0 4 4], .int .i64 0],
  [⟨1230, [.int .i64 1, .int .u8 0, .int .u8 2], 219, true⟩, ⟨1049, [.int .i64 0, .int .i64 0, .int .u8 0, .sl 1011 0 2 2, .int .i64 0, .int .i64 0, .int .u8 1, .sl 1023 0 2 2, .int .i64 0, .int .i64 0, .int .u8 2, .sl 1035 0 2 2, .int .i64 0, .int .i64 0, .int .u8 3, .sl 1047 0 2 2], 113, true⟩, ⟨1011, [.int .i64 0, .int .i64 4], 3, true⟩, ⟨1023, [.int .i64 1, .int .i64 7], 3, true⟩, ⟨1035, [.int .i64 2, .int .i64 6], 3, true⟩, ⟨1047, [.int .i64 3, .int .i64 5], 3, true⟩]⟩
theorem md21a_good : goodK md21a xmc21a = true := by kernel_rfl
noncomputable def xmd21a : FuncId → List AV → St → CRes := memR md21a xmc21a
theorem xmd21a_ok {W : World} (hQ : Qf W) (hT : Tn W) : Known1 W xmd21a := memK hQ hT (xmc21a_ok hQ hT) md21a_good (xmc21a_ok hQ hT)
noncomputable def mf22 : MemR := ⟨46, 0, [.agg [.int .i64 2, .int .i64 2]],
  [],
  .tup [.agg [.int .i64 2, .int .i64 2, .nilSl, .int .u8 0, .int .i64 0, .int .i64 0, .sl 1112 0 16 16], .int .i64 0],
  [⟨1112, [.int .i64 0, .int .i64 0, .int .u8 0, .sl 930 0 1 1, .int .i64 0, .int .i64 0, .int .u8 1, .sl 942 0 1 1, .int .i64 0, .int .i64 0, .int .u8 2, .sl 954 0 1 1, .int .i64 0, .int .i64 0, .int .u8 3, .sl 966 0 1 1, .int .i64 1, .int .i64 0, .int .u8 0, .sl 978 0 1 1, .int .i64 1, .int .i64 0, .int .u8 1, .sl 990 0 1 1, .int .i64 1, .int .i64 0, .int .u8 2, .sl 1002 0 1 1, .int .i64 1, .int .i64 0, .int .u8 3, .sl 1014 0 1 1, .int .i64 0, .int .i64 1, .int .u8 0, .sl 1026 0 1 1, .int .i64 0, .int .i64 1, .int .u8 1, .sl 1038 0 1 1, .int .i64 0, .int .i64 1, .int .u8 2, .sl 1050 0 1 1, .int .i64 0, .int .i64 1, .int .u8 3, .sl 1062 0 1 1, .int .i64 1, .int .i64 1, .int .u8 0, .sl 1074 0 1 1, .int .i64 1, .int .i64 1, .int .u8 1, .sl 1086 0 1 1, .int .i64 1, .int .i64 1, .int .u8 2, .sl 1098 0 1 1, .int .i64 1, .int .i64 1, .int .u8 3, .sl 1110 0 1 1], 113, true⟩, ⟨930, [.int .i64 0], 3, true⟩, ⟨942, [.int .i64 1], 3, true⟩, ⟨954, [.int .i64 2], 3, true⟩, ⟨966, [.int .i64 3], 3, true⟩, ⟨978, [.int .i64 4], 3, true⟩, ⟨990, [.int .i64 5], 3, true⟩, ⟨1002, [.int .i64 6], 3, true⟩, ⟨1014, [.int .i64 7], 3, true⟩, ⟨1026, [.int .i64 8], 3, true⟩, ⟨1038, [.int .i64 9], 3, true⟩, ⟨1050, [.int .i64 10], 3, true⟩, ⟨1062, [.int .i64 11], 3, true⟩, ⟨1074, [.int .i64 12], 3, true⟩, ⟨1086, [.int .i64 13], 3, true⟩, ⟨1098, [.int .i64 14], 3, true⟩, ⟨1110, [.int .i64 15], 3, true⟩]⟩
theorem mf22_good : goodK mf22 xmd21a = true := by kernel_rfl
noncomputable def xmf22 : FuncId → List AV → St → CRes := memR mf22 xmd21a
theorem xmf22_ok {W : World} (hQ : Qf W) (hT : Tn W) : Known1 W xmf22 := memK hQ hT (xmd21a_ok hQ hT) mf22_good (xmd21a_ok hQ hT)
end Go.Proofs.YtdkijcmhjeaofaaGreatDoor
