/-
  pdu: a reader's methods as the laws use them: what was there before the reader stays.
-/
import Derived.Test.YtaehaclmagnncaaPduNext
import Derived.Test.YtaehaclmagnncaaPduSame
namespace Go.Proofs.Ytaehaclmagnncaa
set_option linter.unusedVariables false
set_option linter.unusedSimpArgs false
open Go.RowKit
attribute [local go_sem ↓] Go.wp_at_zero Go.wp_at_succ

def FeedB (w : World) (B rb : Nat) (tp : Option Addr) (l : List Nat) (e : Ending) (w' : World) : Prop :=
  e = .returned (.tuple #[]) ∧ ∃ v', IsRd w' B rb v' tp l false ∧ Below B w w'
theorem feed_b {w : World} {B rb : Nat} {v : Value} {tp : Option Addr} {l : List Nat} (h : IsRd w B rb v tp l false) (m : List Nat) (hm : ∀ c ∈ m, c < 256) (hs : l.length + m.length ≤ 140737488355328) (hB : B ≤ w.heap.size) :
    Calls Try.prog 15 #[.pointer (some ⟨rb, 0, none⟩), .string (strB m)] w (FeedB w B rb tp (l ++ m)) := by
  refine (feed_any h (strB m) (by rw [strB_size]; exact hs) hB).mono ?_
  rintro e w' ⟨rfl, v', h1, h2⟩
  rw [byB_strB m hm] at h1
  refine ⟨rfl, v', h1, h2.below hB ?_⟩
  rintro k (rfl | hk)
  · exact h.hB
  · exact h.own.base_le k hk
def NextB (w : World) (B rb : Nat) (br : Bool) (c : Int) (p : PD) (r : List Nat) (e : Ending) (w' : World) : Prop :=
  ∃ aa ac da dc v' tp', e = .returned (.tuple #[.agg (pdC p aa ac da dc), .int .i64 c]) ∧ IsBytes w' aa p.ahs ∧ IsBytes w' da p.data ∧ IsRd w' B rb v' tp' r br ∧ Below B w w'
theorem next_b {w : World} {B rb : Nat} {v : Value} {tp : Option Addr} {l : List Nat} (hr : IsRd w B rb v tp l false) (hB : B ≤ w.heap.size) (hlm : l.length ≤ 140737488355328) (h d : Bool) (f : Fd) (c : Int) (p : PD) (r : List Nat) (br : Bool) (hc : c = (f.code : Nat)) (hbr : (f == .broken) = br) (hf : findP l h d = f) (hp : pduP l h d = p) (hrs : restP l h d = r) :
    Calls Try.prog 16 #[.pointer (some ⟨rb, 0, none⟩), .bool h, .bool d] w (NextB w B rb br c p r) := by
  refine (next_any hr hB hlm h d).mono ?_
  rintro e w' ⟨cs, v', tp', rfl, ⟨aa, ac, da, dc, rfl, h1, h2, -, -⟩, h3, h4, -⟩
  rw [hf, hp] at *
  rw [hrs, hbr] at h3
  rw [hc]
  refine ⟨aa, ac, da, dc, v', tp', rfl, h1, h2, h3, h4.below hB ?_⟩
  rintro k rfl
  exact hr.hB
theorem nothing_told {l : List Nat} {h d : Bool} (hf : findP l h d = .nothing) : pduP l h d = {} ∧ restP l h d = l := ⟨by unfold pduP; rw [hf], by unfold restP; rw [hf]⟩
theorem broken_told {l : List Nat} {h d : Bool} (hf : findP l h d = .broken) : pduP l h d = {} ∧ restP l h d = [] := ⟨by unfold pduP; rw [hf], by unfold restP; rw [hf]⟩
theorem same_pd (p : PD) (aa da aa' da' : Option Addr) (ac dc ac' dc' : Nat) (w : World) (h1 : IsBytes w aa p.ahs) (h2 : IsBytes w da p.data) (h3 : IsBytes w aa' p.ahs) (h4 : IsBytes w da' p.data) :
    Calls Try.prog 18 #[.agg (pdC p aa ac da dc), .agg (pdC p aa' ac' da' dc')] w fun e w' => e = .returned (.bool true) ∧ Below w.heap.size w w' :=
  same_eq p.op p.imm p.flags p.s0 p.s1 p.lun p.tag _ _ _ _ _ _ _ p.ahs p.data aa da aa' da' _ _ ac dc ac' dc' w rfl rfl h1 h2 h3 h4
/-- A new reader. -/
theorem rd_new (w : World) : IsRd (w.alloc (.cells #[.slice none 0 0, .bool false, .pointer none] 37)) w.heap.size w.heap.size (.slice none 0 0) none [] false :=
  ⟨IsBlk.new _ _ _, Own.nil _ _, fun a ha => (by cases ha), Nat.le_refl _⟩

/-- A new PDU, stored whole. -/
theorem row_new (w : World) (cs : Array Value) : Below w.heap.size w ((w.alloc (.cells pdZ 28)).setRow w.heap.size cs) ∧ IsBlk ((w.alloc (.cells pdZ 28)).setRow w.heap.size cs) w.heap.size cs 28 :=
  ⟨below_setRow ((Below.refl _ _).alloc (Nat.le_refl _) _) _ (Nat.le_refl _) _, isBlk_setRow (IsBlk.new w _ _) cs⟩
/-- The anchor's PDU. -/
def p0 : PD := { tag := 5, data := [97, 98] }
theorem p0_ok : p0.Ok := ⟨by decide, by decide, by decide, by decide, by decide, by decide, rfl, by decide, by decide⟩
theorem p0_may : p0.may = true := by decide
def e0 : List Nat := encP p0 true true
theorem e0_len : e0.length = 60 := by rw [e0, encP_length p0 rfl p0_may]; rfl
theorem e0_part : findP (e0.take 50) true true = .nothing := find_part p0 p0_ok p0_may true true 50 (by have := e0_len; unfold e0 at this; omega)
theorem e0_whole : findP e0 true true = .whole ∧ pduP e0 true true = p0 ∧ restP e0 true true = [] := by
  have := find_whole p0 p0_ok p0_may true true []
  rw [List.append_nil] at this
  exact this
/-- Encode, of the anchor's PDU. -/
theorem enc_first (w : World) (b : Nat) (hb : IsBytes w (some ⟨b, 0, none⟩) [97, 98]) :
    Calls Try.prog 11 #[.agg #[.int .i64 0, .bool false, .int .u8 0, .int .u8 0, .int .u8 0, .slice none 0 0, .int .u64 0, .int .u32 5, .int .u32 0, .int .u32 0, .int .u32 0, .int .u32 0, .int .u32 0, .int .u32 0, .int .u32 0, .slice (some ⟨b, 0, none⟩) 2 2], .bool true, .bool true] w (Encd w e0) :=
  enc_any p0 p0_ok none (some ⟨b, 0, none⟩) 0 2 w ⟨by simp [p0], .inl rfl⟩ hb (fun _ => rfl) (fun h => by cases h) (by decide) (by decide) true true
end Go.Proofs.Ytaehaclmagnncaa
