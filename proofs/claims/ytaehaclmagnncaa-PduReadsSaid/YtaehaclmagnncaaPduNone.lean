/-
  pdu: PduNone, walked.
-/
import Derived.Test.YtaehaclmagnncaaPduSt
import Derived.Test.YtaehaclmagnncaaPduPs
namespace Go.Proofs.Ytaehaclmagnncaa
set_option linter.unusedVariables false
set_option linter.unusedSimpArgs false
open Go.RowKit
attribute [local go_sem ↓] Go.wp_at_zero Go.wp_at_succ

theorem strB_append (l m : List Nat) : strB (l ++ m) = strB l ++ strB m := by
  apply ByteArray.ext
  rw [ByteArray.data_append]
  apply Array.ext'
  rw [Array.toList_append]
  unfold strB
  rw [strOfNums_data, strOfNums_data, strOfNums_data, List.map_append, List.map_append]
theorem strB_one (c : Nat) : strB [c] = ⟨#[UInt8.ofNat c]⟩ := by
  apply ByteArray.ext
  apply Array.ext'
  unfold strB
  rw [strOfNums_data]
  rfl
/-- The 48 bytes that break a reader. -/
def z47 : List Nat := List.replicate 47 0
theorem z47_lt : ∀ c ∈ z47, c < 256 := by intro c hc; unfold z47 at hc; rw [(List.mem_replicate.1 hc).2]; decide
theorem z47_len : z47.length = 47 := by unfold z47; simp
def brk (c : Nat) : List Nat := c :: z47
theorem brk_eq : (⟨#[128]⟩ : ByteArray) ++ strB z47 = strB (brk 128) := by
  unfold brk
  rw [show (128 :: z47) = [128] ++ z47 from rfl, strB_append, strB_one]
  rfl
theorem brk_lt (c : Nat) (hc : c < 256) : ∀ x ∈ brk c, x < 256 := by
  intro x hx
  rcases List.mem_cons.1 hx with rfl | hx
  · exact hc
  · exact z47_lt x hx
theorem brk_find (c : Nat) (hc : 128 ≤ c) (r : List Nat) (h d : Bool) : findP (brk c ++ r) h d = .broken := by
  unfold brk
  rw [List.cons_append]
  exact find_broken c hc (z47 ++ r) h d (by rw [List.length_append, z47_len]; omega)
theorem run_make47 (w : World) : (Instr.makeSlice 23 (.int .i64 47) (.int .i64 47)).run Try.prog w = .ok (.slice (some ⟨w.heap.size, 0, none⟩) 47 47) (w.alloc (.cells (nv .u8 z47) 5)) := by
  obtain ⟨i0, hi, hz0, hz1, hz2⟩ := info_parts Try.info8
  have := run_makeSlice (P := Try.prog) w 23 5 i0 (.int .u8 0) Try.underlying23 hi hz0 .i64 .i64 47 47 (by omega) (by omega) (by rw [hz1]; omega) (by rw [hz2]; omega) (by omega)
  rw [hz1, show Int.toNat 47 = 47 from rfl, made] at this
  exact this

set_option maxRecDepth 100000 in
set_option maxHeartbeats 4000000 in
theorem none_walk (v0 v1 : Value) (D0 D1 : D) (w : World) (r0 : RdV Try.prog w 9 v0 D0) (r1 : RdV Try.prog w 28 v1 D1) :
    Calls Try.prog 6 #[v0, v1] w fun e w' => e = .returned (.bool true) ∧ Below w.heap.size w w' := by
  obtain ⟨p, aa, ac, da, dc, hp⟩ := rdv_pdu r1
  obtain ⟨s, rfl, -, -⟩ := r0.string Try.underlying9
  rw [hp.val]
  clear r0 r1 hp
  obtain ⟨W1, hW1⟩ : ∃ W, w.alloc (.cells (pdC p aa ac da dc) 28) = W := ⟨_, rfl⟩
  have hb1 : Below w.heap.size w W1 := by rw [← hW1]; exact (Below.refl _ _).alloc (Nat.le_refl _) _
  have HB1 := Lib.hid hb1
  clear hb1
  go_enter Try.func6, Try.ntmps6
  go_wp2_with fail
  clear hW1
  refine (stands_any _).mono ?_
  rintro e W2 ⟨rfl, hb2⟩
  have HB2 := Lib.hid (HB1.out.trans (hb2.mono HB1.out.size))
  clear hb2 HB1
  go_wp2_with fail
  refine (feed_none none rfl s _).mono ?_
  rintro e W3 ⟨rfl, rfl⟩
  go_wp2_with fail
  refine (next_none false false _).mono ?_
  rintro e W3 ⟨rfl, hb3⟩
  have HB3 := Lib.hid (HB2.out.trans (hb3.mono HB2.out.size))
  clear hb3 HB2
  go_upto_region 6 with (refine wpList_store_row (by rfl) 28 (.tmp 6) (.tmp 21) (by rfl) W3.heap.size pdZ (by rfl) (by rfl) 28 pdZ (by exact IsBlk.new W3 _ _) (by kernel_rfl) (by rfl) pdZ_one ?_)
  have hn := row_new W3 pdZ
  obtain ⟨W4, hW4⟩ : ∃ W, (W3.alloc (.cells pdZ 28)).setRow W3.heap.size pdZ = W := ⟨_, rfl⟩
  rw [hW4] at hn
  rw [show (W3.alloc (.cells #[.int .i64 0, .bool false, .int .u8 0, .int .u8 0, .int .u8 0, .slice none 0 0, .int .u64 0, .int .u32 0, .int .u32 0, .int .u32 0, .int .u32 0, .int .u32 0, .int .u32 0, .int .u32 0, .int .u32 0, .slice none 0 0] 28)).setRow W3.heap.size pdZ = W4 from hW4]
  clear hW4
  have HB4 := Lib.hid (HB3.out.trans (hn.1.mono HB3.out.size))
  clear hn HB3
  have hr5 := rd_new W4
  have hb5 : Below W4.heap.size W4 (W4.alloc (.cells #[.slice none 0 0, .bool false, .pointer none] 37)) := (Below.refl _ _).alloc (Nat.le_refl _) _
  have HR5 := Lib.hid (And.intro hr5 (HB4.out.trans (hb5.mono HB4.out.size)))
  clear hr5 hb5
  go_upto_region 7 with fail
  obtain ⟨rb, hrb⟩ : ∃ rb, rb = W4.heap.size := ⟨_, rfl⟩
  generalize (W4.alloc (.cells #[.slice none 0 0, .bool false, .pointer none] 37)) = W5 at *
  rw [← hrb] at HR5 ⊢
  have hmk := run_make47
  have kb := isBytes_row (IsBlk.new W5 (nv .u8 z47) 5) z47_lt
  have kc : (convert 23 9 (.slice (some ⟨W5.heap.size, 0, none⟩) 47 47)).run Try.prog (W5.alloc (.cells (nv .u8 z47) 5)) = .ok (.string (strB z47)) (W5.alloc (.cells (nv .u8 z47) 5)) := conv_bytes kb z47_len.symm
  have hr6 := HR5.out.1.below ((Below.refl _ _).alloc (Nat.le_refl _) (.cells (nv .u8 z47) 5))
  have hb6 : Below w.heap.size w (W5.alloc (.cells (nv .u8 z47) 5)) := HR5.out.2.alloc HR5.out.2.size _
  have hl6 : rb ≤ (W5.alloc (.cells (nv .u8 z47) 5)).heap.size := by have := HR5.out.1.blk.lt; simp; omega
  have hw6 : w.heap.size ≤ rb := by rw [hrb]; exact HB4.out.size
  have H6 := Lib.hid (And.intro hr6 (And.intro hb6 (And.intro hl6 hw6)))
  clear hr6 hb6 hl6 kb hrb hw6
  have eb := brk_eq
  go_wp2_with fail
  clear kc hmk eb
  generalize W5.alloc (.cells (nv .u8 z47) 5) = W6 at *
  refine (feed_b H6.out.1 (brk 128) (brk_lt 128 (by decide)) (by show 0 + (1 + 47) ≤ _; decide) H6.out.2.2.1).mono ?_
  rintro e W7 ⟨rfl, v7, hrd7, hb7⟩
  have H7 : Hid (IsRd W7 rb rb v7 none (brk 128 ++ []) false ∧ Below w.heap.size w W7) := Lib.hid ⟨hrd7, H6.out.2.1.trans (hb7.mono H6.out.2.2.2)⟩
  have hw6 := H6.out.2.2.2
  clear hrd7 hb7 H6 HR5
  have hf := brk_find 128 (by decide) [] false false
  have HF := Lib.hid hf
  have HW6 := Lib.hid hw6
  clear hf hw6
  go_wp2_with fail
  refine (next_b H7.out.1 (Nat.le_of_lt H7.out.1.blk.lt) (by rw [List.append_nil]; show 1 + 47 ≤ _; decide) false false .broken 3 {} [] true rfl rfl HF.out (broken_told HF.out).1 (broken_told HF.out).2).mono ?_
  rintro e W8 ⟨aa8, ac8, da8, dc8, v8, tp8, rfl, -, -, hrd8, hb8⟩
  have H8 : Hid (IsRd W8 rb rb v8 tp8 [] true ∧ Below w.heap.size w W8) := Lib.hid ⟨hrd8, H7.out.2.trans (hb8.mono HW6.out)⟩
  clear hrd8 hb8 H7 HF
  go_upto_region 9 with (refine store_pb (by rfl) (.tmp 9) (.tmp 33) (by rfl) W8 (by rfl) (by rfl) {} aa8 ac8 da8 dc8 (by rfl) ?_; intro W9 hb9 hk9; have H9 : Hid (IsRd W9 rb rb v8 tp8 [] true ∧ Below w.heap.size w W9) := Lib.hid ⟨H8.out.1.below hb9, H8.out.2.trans (hb9.mono H8.out.2.size)⟩; clear hb9 hk9)
  go_wp2_with fail
  refine (feed_broken H9.out.1 s).mono ?_
  rintro e W10 ⟨rfl, rfl⟩
  go_wp2_with fail
  refine (next_broken H9.out.1 true true).mono ?_
  rintro e W10 ⟨rfl, hb10⟩
  have H10 : Hid (IsRd W10 rb rb v8 tp8 [] true ∧ Below w.heap.size w W10) := Lib.hid ⟨H9.out.1.below hb10, H9.out.2.trans (hb10.mono H9.out.2.size)⟩
  clear hb10 H9
  go_upto_region 11 with (refine store_pb (by rfl) (.tmp 11) (.tmp 41) (by rfl) W10 (by rfl) (by rfl) {} none 0 none 0 (by rfl) ?_; intro W11 hb11 hk11; have H11 : Hid (IsRd W11 rb rb v8 tp8 [] true ∧ Below w.heap.size w W11) := Lib.hid ⟨H10.out.1.below hb11, H10.out.2.trans (hb11.mono H10.out.2.size)⟩; clear hb11 hk11)
  go_wp2_with fail
  refine (left_none _).mono ?_
  rintro e W12 ⟨rfl, rfl⟩
  go_wp2_with fail
  refine (left_any H11.out.1 0 rfl).mono ?_
  rintro e W12 ⟨rfl, rfl⟩
  go_wp2_with fail
  go_ret
  exact ⟨rfl, H11.out.2⟩
end Go.Proofs.Ytaehaclmagnncaa
