/-
  pdu: two PDUs that read alike are the same.
-/
import Derived.Test.YtaehaclmagnncaaPduNx
import Derived.Test.YtaehaclmagnncaaCommon
import Derived.Test.YtaehaclmagnncaaStr
import Derived.Test.YtaehaclmagnncaaNv
import Derived.BigQuiet
import Derived.Deep.CutBlock
import Derived.Deep.DeepCutAuto
import Derived.Outline
namespace Go.Proofs.Ytaehaclmagnncaa
set_option linter.unusedVariables false
set_option linter.unusedSimpArgs false
open Go.RowKit
attribute [local go_sem ↓] Go.wp_at_zero Go.wp_at_succ

theorem sizeOf_u8 (w : World) : (sizeOf 5).run Try.prog w = .ok 1 w := by kernel_rfl
theorem sizeOf_u32 (w : World) : (sizeOf 25).run Try.prog w = .ok 1 w := by kernel_rfl
set_option maxRecDepth 100000 in
set_option maxHeartbeats 2000000 in
theorem same_eq (op : Int) (im : Bool) (fl s0 s1 lun tag w0 w1 w2 w3 w4 w5 w6 : Nat) (la ld : List Nat) (aa da aa' da' : Option Addr) (na nd ac dc ac' dc' : Nat) (w : World) (hna : na = la.length) (hnd : nd = ld.length) (h1 : IsBytes w aa la) (h2 : IsBytes w da ld) (h3 : IsBytes w aa' la) (h4 : IsBytes w da' ld) :
    Calls Try.prog 18 #[.agg #[.int .i64 op, .bool im, .int .u8 (fl : Nat), .int .u8 (s0 : Nat), .int .u8 (s1 : Nat), .slice aa na ac, .int .u64 (lun : Nat), .int .u32 (tag : Nat), .int .u32 (w0 : Nat), .int .u32 (w1 : Nat), .int .u32 (w2 : Nat), .int .u32 (w3 : Nat), .int .u32 (w4 : Nat), .int .u32 (w5 : Nat), .int .u32 (w6 : Nat), .slice da nd dc], .agg #[.int .i64 op, .bool im, .int .u8 (fl : Nat), .int .u8 (s0 : Nat), .int .u8 (s1 : Nat), .slice aa' na ac', .int .u64 (lun : Nat), .int .u32 (tag : Nat), .int .u32 (w0 : Nat), .int .u32 (w1 : Nat), .int .u32 (w2 : Nat), .int .u32 (w3 : Nat), .int .u32 (w4 : Nat), .int .u32 (w5 : Nat), .int .u32 (w6 : Nat), .slice da' nd dc']] w
      fun e w' => e = .returned (.bool true) ∧ Below w.heap.size w w' := by
  have e22 : ∀ w, (Op.equalIn 10000 22 (.agg #[.int .u8 (s0 : Nat), .int .u8 (s1 : Nat)]) (.agg #[.int .u8 (s0 : Nat), .int .u8 (s1 : Nat)])).run Try.prog w = .ok true w := fun w => by
    have := run_equalIn_array (P := Try.prog) 9998 Try.underlying22 Try.underlying5 sizeOf_u8 [(s0 : Int), (s1 : Int)] [(s0 : Int), (s1 : Int)] rfl rfl w
    simpa using this
  have e26 : ∀ w, (Op.equalIn 10000 26 (.agg #[.int .u32 (w0 : Nat), .int .u32 (w1 : Nat), .int .u32 (w2 : Nat), .int .u32 (w3 : Nat), .int .u32 (w4 : Nat), .int .u32 (w5 : Nat), .int .u32 (w6 : Nat)]) (.agg #[.int .u32 (w0 : Nat), .int .u32 (w1 : Nat), .int .u32 (w2 : Nat), .int .u32 (w3 : Nat), .int .u32 (w4 : Nat), .int .u32 (w5 : Nat), .int .u32 (w6 : Nat)])).run Try.prog w = .ok true w := fun w => by
    have := run_equalIn_array (P := Try.prog) 9998 Try.underlying26 Try.underlying25 sizeOf_u32 [(w0 : Int), (w1 : Int), (w2 : Int), (w3 : Int), (w4 : Int), (w5 : Int), (w6 : Int)] [(w0 : Int), (w1 : Int), (w2 : Int), (w3 : Int), (w4 : Int), (w5 : Int), (w6 : Int)] rfl rfl w
    simpa using this
  obtain ⟨W, hW⟩ : ∃ W, W = (w.alloc (.cells #[.int .i64 op, .bool im, .int .u8 (fl : Nat), .int .u8 (s0 : Nat), .int .u8 (s1 : Nat), .slice aa na ac, .int .u64 (lun : Nat), .int .u32 (tag : Nat), .int .u32 (w0 : Nat), .int .u32 (w1 : Nat), .int .u32 (w2 : Nat), .int .u32 (w3 : Nat), .int .u32 (w4 : Nat), .int .u32 (w5 : Nat), .int .u32 (w6 : Nat), .slice da nd dc] 28)).alloc (.cells #[.int .i64 op, .bool im, .int .u8 (fl : Nat), .int .u8 (s0 : Nat), .int .u8 (s1 : Nat), .slice aa' na ac', .int .u64 (lun : Nat), .int .u32 (tag : Nat), .int .u32 (w0 : Nat), .int .u32 (w1 : Nat), .int .u32 (w2 : Nat), .int .u32 (w3 : Nat), .int .u32 (w4 : Nat), .int .u32 (w5 : Nat), .int .u32 (w6 : Nat), .slice da' nd dc'] 28) := ⟨_, rfl⟩
  have hb : Below w.heap.size w W := by rw [hW]; exact ((Below.refl _ _).alloc (Nat.le_refl _) _).alloc (by simp) _
  have ka : IsBlk W w.heap.size #[.int .i64 op, .bool im, .int .u8 (fl : Nat), .int .u8 (s0 : Nat), .int .u8 (s1 : Nat), .slice aa na ac, .int .u64 (lun : Nat), .int .u32 (tag : Nat), .int .u32 (w0 : Nat), .int .u32 (w1 : Nat), .int .u32 (w2 : Nat), .int .u32 (w3 : Nat), .int .u32 (w4 : Nat), .int .u32 (w5 : Nat), .int .u32 (w6 : Nat), .slice da nd dc] 28 := by rw [hW]; exact (IsBlk.new w _ _).alloc _
  have kb : IsBlk W (w.heap.size + 1) #[.int .i64 op, .bool im, .int .u8 (fl : Nat), .int .u8 (s0 : Nat), .int .u8 (s1 : Nat), .slice aa' na ac', .int .u64 (lun : Nat), .int .u32 (tag : Nat), .int .u32 (w0 : Nat), .int .u32 (w1 : Nat), .int .u32 (w2 : Nat), .int .u32 (w3 : Nat), .int .u32 (w4 : Nat), .int .u32 (w5 : Nat), .int .u32 (w6 : Nat), .slice da' nd dc'] 28 := by
    rw [hW]
    have := IsBlk.new (w.alloc (.cells #[.int .i64 op, .bool im, .int .u8 (fl : Nat), .int .u8 (s0 : Nat), .int .u8 (s1 : Nat), .slice aa na ac, .int .u64 (lun : Nat), .int .u32 (tag : Nat), .int .u32 (w0 : Nat), .int .u32 (w1 : Nat), .int .u32 (w2 : Nat), .int .u32 (w3 : Nat), .int .u32 (w4 : Nat), .int .u32 (w5 : Nat), .int .u32 (w6 : Nat), .slice da nd dc] 28)) #[.int .i64 op, .bool im, .int .u8 (fl : Nat), .int .u8 (s0 : Nat), .int .u8 (s1 : Nat), .slice aa' na ac', .int .u64 (lun : Nat), .int .u32 (tag : Nat), .int .u32 (w0 : Nat), .int .u32 (w1 : Nat), .int .u32 (w2 : Nat), .int .u32 (w3 : Nat), .int .u32 (w4 : Nat), .int .u32 (w5 : Nat), .int .u32 (w6 : Nat), .slice da' nd dc'] 28
    rwa [World.size_alloc] at this
  have k1 : (convert 23 9 (.slice aa na ac)).run Try.prog W = .ok (.string (strB la)) W := conv_bytes (h1.of_below hb) hna
  have k2 : (convert 23 9 (.slice da nd dc)).run Try.prog W = .ok (.string (strB ld)) W := conv_bytes (h2.of_below hb) hnd
  have k3 : (convert 23 9 (.slice aa' na ac')).run Try.prog W = .ok (.string (strB la)) W := conv_bytes (h3.of_below hb) hna
  have k4 : (convert 23 9 (.slice da' nd dc')).run Try.prog W = .ok (.string (strB ld)) W := conv_bytes (h4.of_below hb) hnd
  have a0 := ka.cell 0 (v := .int .i64 op) rfl
  have a1 := ka.cell 1 (v := .bool im) rfl
  have a2 := ka.cell 2 (v := .int .u8 (fl : Nat)) rfl
  have a3 := ka.cell 3 (v := .int .u8 (s0 : Nat)) rfl
  have a4 := ka.cell 4 (v := .int .u8 (s1 : Nat)) rfl
  have a5 := ka.cell 5 (v := .slice aa na ac) rfl
  have a6 := ka.cell 6 (v := .int .u64 (lun : Nat)) rfl
  have a7 := ka.cell 7 (v := .int .u32 (tag : Nat)) rfl
  have a8 := ka.cell 8 (v := .int .u32 (w0 : Nat)) rfl
  have a9 := ka.cell 9 (v := .int .u32 (w1 : Nat)) rfl
  have a10 := ka.cell 10 (v := .int .u32 (w2 : Nat)) rfl
  have a11 := ka.cell 11 (v := .int .u32 (w3 : Nat)) rfl
  have a12 := ka.cell 12 (v := .int .u32 (w4 : Nat)) rfl
  have a13 := ka.cell 13 (v := .int .u32 (w5 : Nat)) rfl
  have a14 := ka.cell 14 (v := .int .u32 (w6 : Nat)) rfl
  have a15 := ka.cell 15 (v := .slice da nd dc) rfl
  have b0 := kb.cell 0 (v := .int .i64 op) rfl
  have b1 := kb.cell 1 (v := .bool im) rfl
  have b2 := kb.cell 2 (v := .int .u8 (fl : Nat)) rfl
  have b3 := kb.cell 3 (v := .int .u8 (s0 : Nat)) rfl
  have b4 := kb.cell 4 (v := .int .u8 (s1 : Nat)) rfl
  have b5 := kb.cell 5 (v := .slice aa' na ac') rfl
  have b6 := kb.cell 6 (v := .int .u64 (lun : Nat)) rfl
  have b7 := kb.cell 7 (v := .int .u32 (tag : Nat)) rfl
  have b8 := kb.cell 8 (v := .int .u32 (w0 : Nat)) rfl
  have b9 := kb.cell 9 (v := .int .u32 (w1 : Nat)) rfl
  have b10 := kb.cell 10 (v := .int .u32 (w2 : Nat)) rfl
  have b11 := kb.cell 11 (v := .int .u32 (w3 : Nat)) rfl
  have b12 := kb.cell 12 (v := .int .u32 (w4 : Nat)) rfl
  have b13 := kb.cell 13 (v := .int .u32 (w5 : Nat)) rfl
  have b14 := kb.cell 14 (v := .int .u32 (w6 : Nat)) rfl
  have b15 := kb.cell 15 (v := .slice da' nd dc') rfl
  have HB := Lib.hid hb
  clear hb ka kb h1 h2 h3 h4 hna hnd
  have HW := Lib.hid hW
  clear hW
  go_enter Try.func18, Try.ntmps18
  go_upto_region 1 with fail
  rw [← HW.out]
  clear HW
  simp only [List.append]
  go_wp2_with fail
  go_ret
  exact ⟨rfl, HB.out⟩
end Go.Proofs.Ytaehaclmagnncaa
