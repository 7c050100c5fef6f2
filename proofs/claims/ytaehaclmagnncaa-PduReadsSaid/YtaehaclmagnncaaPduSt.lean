/-
  pdu: the anchor of the laws.
-/
import Derived.Test.YtaehaclmagnncaaPduIf
import Derived.Test.YtaehaclmagnncaaTail
import Derived.Lib.SlBytesConst
import Derived.Outline
namespace Go.Proofs.Ytaehaclmagnncaa
set_option linter.unusedVariables false
set_option linter.unusedSimpArgs false
open Go.RowKit
attribute [local go_sem ↓] Go.wp_at_zero Go.wp_at_succ

/-- The anchor's bytes. -/
theorem ab_bytes (w : World) : IsBytes (w.alloc (.cells #[.int .u8 97, .int .u8 98] 5 (2, 3))) (some ⟨w.heap.size, 0, none⟩) [97, 98] := by
  refine ⟨by decide, .inr ⟨w.heap.size, 0, rfl, fun i hi => ?_⟩⟩
  have h : (w.alloc (.cells #[.int .u8 97, .int .u8 98] 5 (2, 3))).heap[w.heap.size]? = some (.cells #[.int .u8 97, .int .u8 98] 5 (2, 3)) := by
    show (w.heap.push _)[w.heap.size]? = _
    simp
  unfold World.cell?
  rw [h]
  rcases i with _ | _ | i
  · rfl
  · rfl
  · simp at hi; omega
set_option maxRecDepth 100000 in
set_option maxHeartbeats 4000000 in
theorem stands_any (w : World) : Calls Try.prog 9 #[] w fun e w' => e = .returned (.bool true) ∧ Below w.heap.size w w' := by
  obtain ⟨W1, hW1⟩ : ∃ W, W = (w.alloc (.cells #[.int .u8 97, .int .u8 98] 5 (2, 3))).alloc (.cells (pdC p0 none 0 (some ⟨w.heap.size, 0, none⟩) 2) 28) := ⟨_, rfl⟩
  have k0 : IsBytes W1 (some ⟨w.heap.size, 0, none⟩) [97, 98] := by rw [hW1]; exact (ab_bytes w).alloc _
  have k1 : IsBlk W1 (w.heap.size + 1) (pdC p0 none 0 (some ⟨w.heap.size, 0, none⟩) 2) 28 := by
    have := IsBlk.new (w.alloc (.cells #[.int .u8 97, .int .u8 98] 5 (2, 3))) (pdC p0 none 0 (some ⟨w.heap.size, 0, none⟩) 2) 28
    rw [World.size_alloc] at this
    rw [hW1]; exact this
  have hb1 : Below w.heap.size w W1 := by rw [hW1]; exact ((Below.refl _ _).alloc (Nat.le_refl _) _).alloc (by simp) _
  have hs1 : W1.heap.size = w.heap.size + 2 := by rw [hW1]; simp
  have HW := Lib.hid hW1
  have H1 := Lib.hid (And.intro k0 (And.intro k1 (And.intro hb1 hs1)))
  clear hW1 k0 k1 hb1 hs1
  have kc := fun (w : World) (C : Array Value) (n c : Nat) => Lib.run_convert_bytes_const (P := Try.prog) w 23 5 C n c Try.underlying23 Try.underlying5
  go_enter Try.func9, Try.ntmps9
  go_upto_region 2 with fail
  clear kc
  have e1 : (w.alloc (.cells #[.int .u8 97, .int .u8 98] 5 (2, 3))).alloc (.cells #[.int .i64 0, .bool false, .int .u8 0, .int .u8 0, .int .u8 0, .slice none 0 0, .int .u64 0, .int .u32 5, .int .u32 0, .int .u32 0, .int .u32 0, .int .u32 0, .int .u32 0, .int .u32 0, .int .u32 0, .slice (some ⟨w.heap.size, 0, none⟩) 2 2] 28) = W1 := HW.out.symm
  rw [e1]
  clear e1 HW
  go_wp2_with (refine wpList_load_row (by rfl) 28 (.tmp 1) (by rfl) (w.heap.size + 1) (by rfl) 28 (pdC p0 none 0 (some ⟨w.heap.size, 0, none⟩) 2) (0, 0) _ (by exact H1.out.2.1) Try.underlying28 rfl (by kernel_rfl) ?_)
  refine (enc_any p0 p0_ok none (some ⟨w.heap.size, 0, none⟩) 0 2 W1 ⟨by simp [p0], .inl rfl⟩ H1.out.1 (fun _ => rfl) (fun h => by cases h) (by decide) (by decide) true true).mono ?_
  rintro e W2 ⟨v, rfl, ho, hb2⟩
  obtain ⟨g, vc, rfl, hvb, -, -, hglt, hvc, hvm⟩ := ho.block (by intro e; have := e0_len; unfold e0 at this; rw [e] at this; simp at this)
  have H2 : Hid (IsBytes W2 (some ⟨w.heap.size, 0, none⟩) [97, 98] ∧ IsBlk W2 (w.heap.size + 1) (pdC p0 none 0 (some ⟨w.heap.size, 0, none⟩) 2) 28 ∧ Below w.heap.size w W2) := Lib.hid ⟨H1.out.1.of_below hb2, H1.out.2.1.below hb2 H1.out.2.1.lt, H1.out.2.2.1.trans (hb2.mono H1.out.2.2.1.size)⟩
  rw [show encP p0 true true = e0 from rfl, e0_len] at *
  have hvc2 : ¬ vc = 50 := by omega
  have hvc3 : (50 : Int) ≤ (vc : Int) := by omega
  have H3 := Lib.hid (And.intro hvb (And.intro hvm hglt))
  have hrd0 := (rd_new W2)
  have hlt2 := H2.out.2.1.lt
  have hbb : Below W2.heap.size W2 (W2.alloc (.cells #[.slice none 0 0, .bool false, .pointer none] 37)) := (Below.refl _ _).alloc (Nat.le_refl _) _
  have HR0 : Hid (IsRd (W2.alloc (.cells #[.slice none 0 0, .bool false, .pointer none] 37)) W2.heap.size W2.heap.size (.slice none 0 0) none [] false ∧ Below W2.heap.size W2 (W2.alloc (.cells #[.slice none 0 0, .bool false, .pointer none] 37))) := Lib.hid ⟨hrd0, hbb⟩
  clear ho hb2 hvb hvm H1 hglt hrd0 hbb hlt2
  go_upto_region 6 with fail
  obtain ⟨rb, hrb⟩ : ∃ rb, rb = W2.heap.size := ⟨_, rfl⟩
  generalize (W2.alloc (.cells #[.slice none 0 0, .bool false, .pointer none] 37)) = W3 at *
  rw [← hrb] at HR0 ⊢
  have HRB := Lib.hid hrb
  clear hrb
  have k3 : (convert 23 9 (.slice (some ⟨g, 0, none⟩) 50 vc)).run Try.prog W3 = .ok (.string (strB (e0.take 50))) W3 := conv_bytes ((H3.out.1.take 50).of_below (HRB.out ▸ HR0.out.2)) (by rw [List.length_take, e0_len]; rfl)
  have HLT : Hid (∀ c ∈ e0, c < 256) := Lib.hid H3.out.1.1
  go_wp2_with fail
  clear k3
  refine (feed_b HR0.out.1 (e0.take 50) (fun c hc => HLT.out c (List.mem_of_mem_take hc)) (by rw [List.length_take, e0_len]; decide) (by have := HR0.out.1.blk.lt; omega)).mono ?_
  rintro e W4 ⟨rfl, v4, hrd4, hb4⟩
  rw [List.nil_append] at hrd4
  have H4 : Hid (IsRd W4 rb rb v4 none (e0.take 50) false ∧ Below rb W2 W4) := Lib.hid ⟨hrd4, HR0.out.2.trans hb4⟩
  clear hrd4 hb4
  go_wp2_with fail
  refine (next_b H4.out.1 (Nat.le_of_lt H4.out.1.blk.lt) (by rw [List.length_take, e0_len]; decide) true true .nothing 0 {} (e0.take 50) false rfl rfl e0_part (nothing_told e0_part).1 (nothing_told e0_part).2).mono ?_
  rintro e W5 ⟨aa, ac, da, dc, v5, tp5, rfl, -, -, hrd5, hb5⟩
  have H5 : Hid (IsRd W5 rb rb v5 tp5 (e0.take 50) false ∧ Below rb W2 W5) := Lib.hid ⟨hrd5, H4.out.2.trans hb5⟩
  clear hrd5 hb5
  go_upto_region 8 with (refine wpList_store_row (by rfl) 28 (.tmp 4) (.tmp 26) (by rfl) W5.heap.size (pdC {} aa ac da dc) (by rfl) (by rfl) 28 pdZ (by exact IsBlk.new W5 _ _) (by kernel_rfl) (by rfl) (pdC_one _ _ _ _ _) ?_)
  have hn5 := row_new W5 (pdC {} aa ac da dc)
  obtain ⟨W6, hW6⟩ : ∃ W, (W5.alloc (.cells pdZ 28)).setRow W5.heap.size (pdC {} aa ac da dc) = W := ⟨_, rfl⟩
  rw [hW6] at hn5
  rw [show (W5.alloc (.cells #[.int .i64 0, .bool false, .int .u8 0, .int .u8 0, .int .u8 0, .slice none 0 0, .int .u64 0, .int .u32 0, .int .u32 0, .int .u32 0, .int .u32 0, .int .u32 0, .int .u32 0, .int .u32 0, .int .u32 0, .slice none 0 0] 28)).setRow W5.heap.size (pdC {} aa ac da dc) = W6 from hW6]
  clear hW6
  have H6 : Hid (IsRd W6 rb rb v5 tp5 (e0.take 50) false ∧ Below rb W2 W6) := Lib.hid ⟨H5.out.1.below hn5.1, H5.out.2.trans (hn5.1.mono (by have := H5.out.1.blk.lt; omega))⟩
  clear hn5
  have k6 : (convert 23 9 (.slice (some ⟨g, 50, none⟩) 10 (vc - 50))).run Try.prog W6 = .ok (.string (strB (e0.drop 50))) W6 := by
    have hb := H3.out.1.of_below (HRB.out ▸ H6.out.2)
    have hc := isBytes_cut hb vc 50 60 (by decide) (by rw [e0_len]; decide) (by rw [e0_len]; exact hvc)
    unfold cutA at hc
    rw [if_neg hvc2, List.take_of_length_le (by rw [List.length_drop, e0_len]; decide)] at hc
    exact conv_bytes hc (by rw [List.length_drop, e0_len])
  go_wp2_with fail
  clear k6
  refine (feed_b H6.out.1 (e0.drop 50) (fun c hc => HLT.out c (List.mem_of_mem_drop hc)) (by rw [List.length_take, List.length_drop, e0_len]; decide) (Nat.le_of_lt H6.out.1.blk.lt)).mono ?_
  rintro e W7 ⟨rfl, v7, hrd7, hb7⟩
  rw [List.take_append_drop] at hrd7
  have H7 : Hid (IsRd W7 rb rb v7 tp5 e0 false ∧ Below rb W2 W7) := Lib.hid ⟨hrd7, H6.out.2.trans hb7⟩
  clear hrd7 hb7
  go_wp2_with fail
  refine (next_b H7.out.1 (Nat.le_of_lt H7.out.1.blk.lt) (by rw [e0_len]; decide) true true .whole 1 p0 [] false rfl rfl e0_whole.1 e0_whole.2.1 e0_whole.2.2).mono ?_
  rintro e W8 ⟨aa8, ac8, da8, dc8, v8, tp8, rfl, ha8, hd8, hrd8, hb8⟩
  have H8 : Hid (IsRd W8 rb rb v8 tp8 [] false ∧ Below rb W2 W8 ∧ IsBytes W8 aa8 p0.ahs ∧ IsBytes W8 da8 p0.data) := Lib.hid ⟨hrd8, H7.out.2.trans hb8, ha8, hd8⟩
  clear hrd8 hb8 ha8 hd8
  go_upto_region 10 with (refine wpList_store_row (by rfl) 28 (.tmp 6) (.tmp 36) (by rfl) W8.heap.size (pdC p0 aa8 ac8 da8 dc8) (by rfl) (by rfl) 28 pdZ (by exact IsBlk.new W8 _ _) (by kernel_rfl) (by rfl) (pdC_one _ _ _ _ _) ?_)
  have hn8 := row_new W8 (pdC p0 aa8 ac8 da8 dc8)
  obtain ⟨W9, hW9⟩ : ∃ W, (W8.alloc (.cells pdZ 28)).setRow W8.heap.size (pdC p0 aa8 ac8 da8 dc8) = W := ⟨_, rfl⟩
  rw [hW9] at hn8
  rw [show (W8.alloc (.cells #[.int .i64 0, .bool false, .int .u8 0, .int .u8 0, .int .u8 0, .slice none 0 0, .int .u64 0, .int .u32 0, .int .u32 0, .int .u32 0, .int .u32 0, .int .u32 0, .int .u32 0, .int .u32 0, .int .u32 0, .slice none 0 0] 28)).setRow W8.heap.size (pdC p0 aa8 ac8 da8 dc8) = W9 from hW9]
  clear hW9
  have hb9 : Below rb W2 W9 := H8.out.2.1.trans (hn8.1.mono (by have := H8.out.1.blk.lt; omega))
  have hb9' : Below W2.heap.size W2 W9 := HRB.out ▸ hb9
  have H9 : Hid (IsRd W9 rb rb v8 tp8 [] false ∧ IsBytes W9 aa8 p0.ahs ∧ IsBytes W9 da8 p0.data ∧ IsBlk W9 (w.heap.size + 1) (pdC p0 none 0 (some ⟨w.heap.size, 0, none⟩) 2) 28 ∧ IsBytes W9 (some ⟨w.heap.size, 0, none⟩) [97, 98] ∧ IsBlk W9 W8.heap.size (pdC p0 aa8 ac8 da8 dc8) 28 ∧ Below w.heap.size w W9) :=
    Lib.hid ⟨H8.out.1.below hn8.1, H8.out.2.2.1.of_below hn8.1, H8.out.2.2.2.of_below hn8.1, H2.out.2.1.below hb9' H2.out.2.1.lt, H2.out.1.of_below hb9', hn8.2, H2.out.2.2.trans (hb9'.mono H2.out.2.2.size)⟩
  clear hn8 hb9 hb9'
  go_wp2_with (first
    | (refine wpList_load_row_g (by rfl) 28 (.tmp 1) (by rfl) (w.heap.size + 1) (by rfl) 28 (pdC p0 none 0 (some ⟨w.heap.size, 0, none⟩) 2) (0, 0) _ (by exact H9.out.2.2.2.1) Try.underlying28 rfl (by kernel_rfl) ?_)
    | (refine wpList_load_row_g (by rfl) 28 (.tmp 6) (by rfl) W8.heap.size (by rfl) 28 (pdC p0 aa8 ac8 da8 dc8) (0, 0) _ (by exact H9.out.2.2.2.2.2.1) Try.underlying28 rfl (by kernel_rfl) ?_))
  refine (same_pd p0 none (some ⟨w.heap.size, 0, none⟩) aa8 da8 0 2 ac8 dc8 W9 ⟨by simp [p0], .inl rfl⟩ H9.out.2.2.2.2.1 H9.out.2.1 H9.out.2.2.1).mono ?_
  rintro e W10 ⟨rfl, hb10⟩
  have H10 : Hid (IsRd W10 rb rb v8 tp8 [] false ∧ Below w.heap.size w W10) := Lib.hid ⟨H9.out.1.below hb10, H9.out.2.2.2.2.2.2.trans (hb10.mono H9.out.2.2.2.2.2.2.size)⟩
  clear hb10
  go_wp2_with fail
  refine (left_any H10.out.1 0 rfl).mono ?_
  rintro e W11 ⟨rfl, rfl⟩
  go_wp2_with fail
  go_ret
  exact ⟨rfl, H10.out.2⟩
end Go.Proofs.Ytaehaclmagnncaa
