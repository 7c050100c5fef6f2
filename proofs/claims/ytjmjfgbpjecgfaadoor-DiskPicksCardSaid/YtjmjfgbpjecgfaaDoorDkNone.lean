/-
  disk: DiskNone walked.
-/
import Derived.Test.YtjmjfgbpjecgfaaDoorDkD
namespace Go.Proofs.YtjmjfgbpjecgfaaDoor
set_option linter.unusedVariables false
set_option linter.unusedSimpArgs false
open Go.RowKit

theorem num_off (v : Value) (W : World) (hg : HasET W) (h : IsRes W v 10) : Calls Tryd.prog 14 #[v] W fun ev w' => ev = .returned (.int .i64 10) ∧ Below W.heap.size W w' := num_res v 10 W hg h

set_option maxRecDepth 100000 in
set_option maxHeartbeats 4000000 in
theorem none_walk (v0 v1 : Value) (D0 D1 : D) (W : World) (r0 : RdV Tryd.prog W 3 v0 D0) (r1 : RdV Tryd.prog W 58 v1 D1) (hg : HasET W) :
    Calls Tryd.prog 8 #[v0, v1] W fun e w' => e = .returned (.bool true) ∧ Below W.heap.size W w' := by
  obtain ⟨i, rfl, rfl, hi⟩ := r0.int Tryd.underlying3
  clear r0 r1
  go_enter Tryd.func8, Tryd.ntmps8
  go_upto_region 6 with (first
    | (go_at_call 9; (with_reducible refine (stands_any _).mono ?_); rintro e w1 ⟨rfl, hb1⟩)
    | (go_at_call 16; (with_reducible refine (fuel_nil _ _).mono ?_); rintro e w' ⟨⟨v, rfl⟩, rfl⟩)
    | (go_at_call 15; (with_reducible refine (read_nil _ _).mono ?_); rintro e w2 ⟨v2, rfl, hr2, hb2⟩; have H2 := Lib.hid (And.intro hr2 (hb1.trans (hb2.mono hb1.size))); clear hr2 hb1 hb2)
    | (refine wpList_alloc_info (by rfl) 33 (by rfl) (.agg (nv .u8 zeroPg)) (nv .u8 zeroPg) (by kernel_rfl) rfl ?_)
    | (refine wpList_store_row (by rfl) 33 (.tmp 6) (.tmp 17) (by rfl) _ (nv .u8 zeroPg) (by rfl) (by rfl) 33 (nv .u8 zeroPg) (heap_alloc_new _ _) (info_pg _ zeroPg_length) (by rfl) (nv_one _ _) ?_))
  have hv := pg_var w2 zeroPg
  generalize (w2.alloc (.cells (nv .u8 zeroPg) 33)).setRow w2.heap.size (nv .u8 zeroPg) = w3 at hv ⊢
  have hr3 := H2.out.1.below hv.2
  have hb3 := H2.out.2.trans (hv.2.mono H2.out.2.size)
  have hnum := num_off v2 w3 (hg.below hb3) hr3
  have HB3 := Lib.hid hb3
  clear hv hr3 hb3
  go_wp2_with (first
    | (go_at_call 17; (with_reducible refine (off_nil _).mono ?_); rintro e w' ⟨rfl, rfl⟩)
    | (go_at_call 21; (with_reducible refine (size_nil _).mono ?_); rintro e w' ⟨rfl, rfl⟩)
    | (go_at_call 18; (with_reducible refine (pending_nil _).mono ?_); rintro e w' ⟨rfl, rfl⟩)
    | (go_at_call 14; (with_reducible refine hnum.mono ?_); rintro e w4 ⟨rfl, hb4⟩; have HB4 := Lib.hid (HB3.out.trans (hb4.mono HB3.out.size)); clear hb4)
    | (go_at_call 11; refine (write_nil i zeroPg _).mono ?_; rintro e w5 ⟨v5, rfl, hr5, hb5⟩; have HB5 := Lib.hid (HB4.out.trans (hb5.mono HB4.out.size)); have hnum5 := num_off v5 w5 (hg.below HB5.out) hr5; clear hb5 hr5)
    | (go_at_call 14; (with_reducible refine hnum5.mono ?_); rintro e w6 ⟨rfl, hb6⟩; have HB6 := Lib.hid (HB5.out.trans (hb6.mono HB5.out.size)); clear hb6)
    | (go_at_call 12; (with_reducible refine (flush_nil _).mono ?_); rintro e w7 ⟨v7, rfl, hr7, hb7⟩; have HB7 := Lib.hid (HB6.out.trans (hb7.mono HB6.out.size)); have hnum7 := num_off v7 w7 (hg.below HB7.out) hr7; clear hb7 hr7)
    | (go_at_call 14; (with_reducible refine hnum7.mono ?_); rintro e w8 ⟨rfl, hb8⟩; have HB8 := Lib.hid (HB7.out.trans (hb8.mono HB7.out.size)); clear hb8)
    | (go_at_call 13; (with_reducible refine (crash_nil _ _).mono ?_); rintro e w' ⟨rfl, rfl⟩))
  go_ret
  exact ⟨rfl, HB8.out.alloc HB8.out.size _⟩
end Go.Proofs.YtjmjfgbpjecgfaaDoor
