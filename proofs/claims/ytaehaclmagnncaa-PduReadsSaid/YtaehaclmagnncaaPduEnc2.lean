/-
  pdu: Encode, whatever the PDU.
-/
import Derived.Test.YtaehaclmagnncaaPduEnc
namespace Go.Proofs.Ytaehaclmagnncaa
set_option linter.unusedVariables false
set_option linter.unusedSimpArgs false
open Go.RowKit
attribute [local go_sem ↓] Go.wp_at_zero Go.wp_at_succ

set_option maxRecDepth 100000 in
set_option maxHeartbeats 1000000 in
theorem enc_no (op : Int) (x1 x2 x3 x4 x6 x7 x8 x9 x10 x11 x12 x13 x14 : Value) (aa da : Option Addr) (n ac m dc : Nat) (w : World) (hn : n ≤ 9223372036854775807) (hm : m ≤ 9223372036854775807) (hb : mayB op n m = false) (h d : Bool) :
    Calls Try.prog 11 #[.agg #[.int .i64 op, x1, x2, x3, x4, .slice aa n ac, x6, x7, x8, x9, x10, x11, x12, x13, x14, .slice da m dc], .bool h, .bool d] w fun e w' => e = .returned (.slice none 0 0) ∧ Below w.heap.size w w' := by
  have HMay := Lib.hid (fun W => may_any op x1 x2 x3 x4 x6 x7 x8 x9 x10 x11 x12 x13 x14 aa da n ac m dc W hn hm)
  rw [hb] at HMay
  clear hb
  go_enter Try.func11, Try.ntmps11
  go_wp2_with (refine wpList_load_row (by rfl) 28 (.tmp 3) (by rfl) w.heap.size (by rfl) 28 #[.int .i64 op, x1, x2, x3, x4, .slice aa n ac, x6, x7, x8, x9, x10, x11, x12, x13, x14, .slice da m dc] (0, 0) _ (by exact IsBlk.new w _ _) Try.underlying28 rfl (by kernel_rfl) ?_)
  refine (HMay.out _).mono ?_
  rintro e w1 ⟨rfl, hb1⟩
  go_wp2_with fail
  go_ret
  exact ⟨rfl, ((Below.refl _ _).alloc (Nat.le_refl _) _).trans (hb1.mono (by simp))⟩

theorem enc_any (p : PD) (hp : p.Ok) (aa da : Option Addr) (ac dc : Nat) (w : World) (haa : IsBytes w aa p.ahs) (hda : IsBytes w da p.data) (hac : aa = none → ac = 0) (hdc : da = none → dc = 0)
    (hal : p.ahs.length ≤ 9223372036854775807) (hdl : p.data.length ≤ 9223372036854775807) (h d : Bool) :
    Calls Try.prog 11 #[.agg (pdC p aa ac da dc), .bool h, .bool d] w (Encd w (encP p h d)) := by
  cases hm : p.may with
  | false =>
    refine (enc_no p.op _ _ _ _ _ _ _ _ _ _ _ _ _ aa da p.ahs.length ac p.data.length dc w hal hdl hm h d).mono ?_
    rintro e w' ⟨rfl, hb⟩
    exact ⟨_, rfl, by rw [encP, if_neg (by rw [hm]; simp)]; exact Own.nil _ _, hb⟩
  | true =>
    obtain ⟨op, imm, fl, s0, s1, ahs, lun, tag, words, data⟩ := p
    obtain ⟨w0, w1, w2, w3, w4, w5, w6, hw⟩ := seven hp.wl
    simp only at hw
    subst hw
    obtain ⟨o, rfl⟩ : ∃ o : Nat, op = (o : Int) := ⟨op.toNat, by have := (may_iff.1 hm).1; simp only at this; omega⟩
    exact enc_yes o imm fl s0 s1 ahs lun tag w0 w1 w2 w3 w4 w5 w6 data hp hm aa da ac dc w haa hda hac hdc hal hdl h d
end Go.Proofs.Ytaehaclmagnncaa
