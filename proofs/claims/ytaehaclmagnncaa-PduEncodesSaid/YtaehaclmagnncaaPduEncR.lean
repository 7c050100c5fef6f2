/-
  pdu: the reference's Encode.
-/
import Derived.Test.YtaehaclmagnncaaPduEnc2
import Derived.Test.YtaehaclmagnncaaPduRef
import Derived.Deep.DeepCutAuto
import Derived.Deep.CutBlock
import Derived.Outline
namespace Go.Proofs.Ytaehaclmagnncaa
set_option linter.unusedVariables false
set_option linter.unusedSimpArgs false
open Go.RowKit
attribute [local go_sem ↓] Go.wp_at_zero Go.wp_at_succ

/-- Two rows side by side. -/
structure EncT (w W : World) (B : Nat) (P : Array Value) (v : Value) (l : List Nat) (u : Value) (m : List Nat) : Prop where
  o : EncO w W B P v l
  own : Own W w.heap.size u m
  apart : ∀ k, v.ownBlock = some k → u.ownBlock ≠ some k
theorem EncT.below {w W W' : World} {B : Nat} {P : Array Value} {v u : Value} {l m : List Nat} (h : EncT w W B P v l u m) (hb : Below W.heap.size W W') : EncT w W' B P v l u m := ⟨h.o.below hb, h.own.below hb, h.apart⟩
theorem EncT.alloc {w W : World} {B : Nat} {P : Array Value} {v u : Value} {l m : List Nat} (h : EncT w W B P v l u m) (o : Obj) : EncT w (W.alloc o) B P v l u m := h.below ((Below.refl _ _).alloc (Nat.le_refl _) o)
/-- append to the second row. -/
theorem EncT.app {w W W' : World} {B : Nat} {P : Array Value} {v u u' : Value} {l m m' : List Nat} (h : EncT w W B P v l u m) (ho : Own W' w.heap.size u' m') (hg : W.grownBy W' u.ownBlock) (hv : u'.ownBlock = u.ownBlock ∨ u'.ownBlock = some W.heap.size) : EncT w W' B P v l u' m' := by
  refine ⟨⟨h.o.p.grown hg ?_, h.o.own.grown hg ?_, h.o.bel.grown hg h.o.bel.size h.own.base_le, h.o.ne⟩, ho, ?_⟩
  · exact h.own.ne_blk h.o.p (by decide)
  · by_cases hn : v.ownBlock = none
    · exact .inr hn
    · left
      obtain ⟨k, hk⟩ := Option.ne_none_iff_exists'.1 hn
      rw [hk]; exact fun e => h.apart k hk e.symm
  · intro k hk e
    rcases hv with hv | hv
    · exact h.apart k hk (by rw [← hv]; exact e)
    · rw [e] at hv; injection hv with hv
      have := h.o.own.lt k hk; omega
/-- The second row begins. -/
theorem EncO.two {w W W' : World} {B : Nat} {P : Array Value} {v u : Value} {l m : List Nat} (h : EncO w W B P v l) (ho : Own W' W.heap.size u m) (hb : Below W.heap.size W W') : EncT w W' B P v l u m :=
  ⟨h.below hb, ho.mono h.bel.size, fun k hk e => by have := h.own.lt k hk; have := ho.base_le k e; omega⟩

set_option maxRecDepth 100000 in
set_option maxHeartbeats 4000000 in
theorem encR_yes (op : Nat) (imm : Bool) (fl s0 s1 : Nat) (ahs : List Nat) (lun tag w0 w1 w2 w3 w4 w5 w6 : Nat) (data : List Nat) (hp : (PDn op imm fl s0 s1 ahs lun tag w0 w1 w2 w3 w4 w5 w6 data : PD).Ok) (hm : (PDn op imm fl s0 s1 ahs lun tag w0 w1 w2 w3 w4 w5 w6 data : PD).may = true) (aa da : Option Addr) (ac dc : Nat) (w : World) (haa : IsBytes w aa ahs) (hda : IsBytes w da data) (hac : aa = none → ac = 0) (hdc : da = none → dc = 0)
    (hal : ahs.length ≤ 9223372036854775807) (hdl : data.length ≤ 9223372036854775807) (h d : Bool) :
    Calls Try.prog 12 #[.agg #[.int .i64 (op : Nat), .bool imm, .int .u8 (fl : Nat), .int .u8 (s0 : Nat), .int .u8 (s1 : Nat), .slice aa ahs.length ac, .int .u64 (lun : Nat), .int .u32 (tag : Nat), .int .u32 (w0 : Nat), .int .u32 (w1 : Nat), .int .u32 (w2 : Nat), .int .u32 (w3 : Nat), .int .u32 (w4 : Nat), .int .u32 (w5 : Nat), .int .u32 (w6 : Nat), .slice da data.length dc], .bool h, .bool d] w (Encd w (encP (PDn op imm fl s0 s1 ahs lun tag w0 w1 w2 w3 w4 w5 w6 data) h d)) := by
  have HMay := Lib.hid (fun W => mayR_any (op : Nat) (.bool imm) (.int .u8 (fl : Nat)) (.int .u8 (s0 : Nat)) (.int .u8 (s1 : Nat)) (.int .u64 (lun : Nat)) (.int .u32 (tag : Nat)) (.int .u32 (w0 : Nat)) (.int .u32 (w1 : Nat)) (.int .u32 (w2 : Nat)) (.int .u32 (w3 : Nat)) (.int .u32 (w4 : Nat)) (.int .u32 (w5 : Nat)) (.int .u32 (w6 : Nat)) aa da ahs.length ac data.length dc W hal hdl)
  rw [show mayB (op : Int) ahs.length data.length = true from hm] at HMay
  have K0 := Lib.hid (IsBlk.new w #[.int .i64 (op : Nat), .bool imm, .int .u8 (fl : Nat), .int .u8 (s0 : Nat), .int .u8 (s1 : Nat), .slice aa ahs.length ac, .int .u64 (lun : Nat), .int .u32 (tag : Nat), .int .u32 (w0 : Nat), .int .u32 (w1 : Nat), .int .u32 (w2 : Nat), .int .u32 (w3 : Nat), .int .u32 (w4 : Nat), .int .u32 (w5 : Nat), .int .u32 (w6 : Nat), .slice da data.length dc] 28)
  obtain ⟨q1, q2, q3, q4, q5⟩ := may_iff.1 hm
  simp only at q1 q2 q3 q4 q5
  have hlun := hp.lun
  have htag := hp.tag
  simp only at hlun htag
  have HP := Lib.hid (And.intro hp (And.intro haa (And.intro hda (And.intro hac (And.intro hdc hm)))))
  have q6 : op < 64 := by omega
  have HQ4 := Lib.hid q4
  clear hm hp haa hda hac hdc q1 q2 q4
  go_enter Try.func12, Try.ntmps12
  go_wp2_with fail
  refine (HMay.out _).mono ?_
  rintro e W1 ⟨rfl, hb1⟩
  have K1 : Hid (IsBlk W1 w.heap.size #[.int .i64 (op : Nat), .bool imm, .int .u8 (fl : Nat), .int .u8 (s0 : Nat), .int .u8 (s1 : Nat), .slice aa ahs.length ac, .int .u64 (lun : Nat), .int .u32 (tag : Nat), .int .u32 (w0 : Nat), .int .u32 (w1 : Nat), .int .u32 (w2 : Nat), .int .u32 (w3 : Nat), .int .u32 (w4 : Nat), .int .u32 (w5 : Nat), .int .u32 (w6 : Nat), .slice da data.length dc] 28 ∧ Below w.heap.size w W1) := Lib.hid ⟨K0.out.below hb1 K0.out.lt, ((Below.refl _ _).alloc (Nat.le_refl _) _).trans (hb1.mono (by simp))⟩
  clear hb1 K0 HMay
  have c0 := K1.out.1.cell 0 (v := .int .i64 (op : Nat)) rfl
  have c1 := K1.out.1.cell 1 (v := .bool imm) rfl
  have c2 := K1.out.1.cell 2 (v := .int .u8 (fl : Nat)) rfl
  have c3 := K1.out.1.cell 3 (v := .int .u8 (s0 : Nat)) rfl
  have c4 := K1.out.1.cell 4 (v := .int .u8 (s1 : Nat)) rfl
  have c5 := K1.out.1.cell 5 (v := .slice aa ahs.length ac) rfl
  have c15 := K1.out.1.cell 15 (v := .slice da data.length dc) rfl
  have x0 : IntKind.u8.wrap (op : Int) = (op : Int) := by rw [IntKind.wrap_u8]; omega
  go_upto_if 18 with fail
  go_cut [7] (fun s7 wx => W1 = wx ∧ s7 = .int .u8 ((op + (if imm then 64 else 0) : Nat) : Int))
  case first =>
   as_aux_lemma =>
    cases imm with
    | false =>
      go_wp2_with fail
      go_meet
      exact ⟨rfl, rfl⟩
    | true =>
      go_wp2_with fail
      go_meet
      exact ⟨rfl, rfl⟩
  case rest =>
    obtain ⟨rfl, rfl⟩ := hcut
    obtain ⟨opb, hob⟩ : ∃ b, b = (op + if imm then 64 else 0) := ⟨_, rfl⟩
    rw [← hob]
    have hob2 : opb < 128 := by rw [hob]; split <;> omega
    have HOB := Lib.hid hob
    clear hob x0
    go_upto_region 7 with fail
    have HO : Hid (EncO w (W1.alloc (.cells #[.int .u8 (opb : Nat), .int .u8 (fl : Nat), .int .u8 (s0 : Nat), .int .u8 (s1 : Nat), .int .u8 ((ahs.length : Int) / 4), .int .u8 0, .int .u8 ((data.length : Int) / 256), .int .u8 ((data.length : Int) % 256)] 5)) w.heap.size #[.int .i64 (op : Nat), .bool imm, .int .u8 (fl : Nat), .int .u8 (s0 : Nat), .int .u8 (s1 : Nat), .slice aa ahs.length ac, .int .u64 (lun : Nat), .int .u32 (tag : Nat), .int .u32 (w0 : Nat), .int .u32 (w1 : Nat), .int .u32 (w2 : Nat), .int .u32 (w3 : Nat), .int .u32 (w4 : Nat), .int .u32 (w5 : Nat), .int .u32 (w6 : Nat), .slice da data.length dc] (.slice (some ⟨W1.heap.size, 0, none⟩) 8 8) [opb, fl, s0, s1, ahs.length / 4, 0, data.length / 256, data.length % 256]) := by
      have hb := K1.out.2.size
      have g1 := HP.out.1.flags
      have g2 := HP.out.1.s0
      have g3 := HP.out.1.s1
      refine Lib.hid ⟨K1.out.1.alloc _, own_prefix (l := [opb, fl, s0, s1, ahs.length / 4, 0, data.length / 256, data.length % 256]) (IsBlk.new W1 _ _) rfl rfl ?_ hb (by simp) (by unfold maxLen; omega), K1.out.2.alloc hb _, fun k hk e => ?_⟩
      · simp only [List.mem_cons, List.not_mem_nil, or_false, forall_eq_or_imp, forall_eq] at g1 g2 g3 ⊢
        omega
      · have := K1.out.1.lt
        simp [Value.ownBlock] at hk; omega
    generalize W1.alloc (.cells #[.int .u8 (opb : Nat), .int .u8 (fl : Nat), .int .u8 (s0 : Nat), .int .u8 (s1 : Nat), .int .u8 ((ahs.length : Int) / 4), .int .u8 0, .int .u8 ((data.length : Int) / 256), .int .u8 ((data.length : Int) % 256)] 5) = W6 at *
    generalize W1.heap.size = g at *
    clear K1 c0 c1 c2 c3 c4 c5 c15
    have F1 : Hid (∀ W, Calls Try.prog 22 #[.int .u32 ((lun : Int) / 4294967296)] W (Four W (be4 (lun / 4294967296)))) := Lib.hid (fun W => four_any (lun / 4294967296) (by omega) W)
    have F2 : Hid (∀ W, Calls Try.prog 22 #[.int .u32 ((lun : Int) % 4294967296)] W (Four W (be4 (lun % 4294967296)))) := Lib.hid (fun W => four_any (lun % 4294967296) (by omega) W)
    have c6 := HO.out.p.cell 6 (v := .int .u64 (lun : Nat)) rfl
    go_wp2_with fail
    refine (F1.out _).mono ?_
    rintro e W7 ⟨rfl, hy, hb, hlt⟩
    have HO := Lib.hid (And.intro (HO.out.below hb) hy)
    clear hy hb c6 F1
    go_upto_region 8 with (at_builtin; refine wpList_app rfl (.tmp 45) (.tmp 50) rfl w.heap.size _ [opb, fl, s0, s1, ahs.length / 4, 0, data.length / 256, data.length % 256] rfl HO.out.1.own _ 4 (be4 (lun / 4294967296)) rfl HO.out.2 (fun e => by cases e) (by simp [be4]) HO.out.1.bel.size ?_; intro v8 W8 ho hb hg hv; have HO := Lib.hid (HO.out.1.app ho hg hv); clear ho hb hg hv)
    have c6 := HO.out.p.cell 6 (v := .int .u64 (lun : Nat)) rfl
    go_wp2_with fail
    refine (F2.out _).mono ?_
    rintro e W9 ⟨rfl, hy, hb, hlt2⟩
    have HO := Lib.hid (And.intro (HO.out.below hb) hy)
    clear hy hb c6 F2
    go_upto_region 9 with (at_builtin; refine wpList_app rfl (.tmp 52) (.tmp 56) rfl w.heap.size _ _ rfl HO.out.1.own _ 4 (be4 (lun % 4294967296)) rfl HO.out.2 (fun e => by cases e) (by simp [be4]) HO.out.1.bel.size ?_; intro v9 W10 ho hb hg hv; have HO := Lib.hid (HO.out.1.app ho hg hv); clear ho hb hg hv)
    have c7 := HO.out.p.cell 7 (v := .int .u32 (tag : Nat)) rfl
    go_wp2_with fail
    refine (four_any tag htag _).mono ?_
    rintro e W11 ⟨rfl, hy, hb, hlt3⟩
    have HO := Lib.hid (And.intro (HO.out.below hb) hy)
    clear hy hb c7
    go_upto_block 0 with (at_builtin; refine wpList_app rfl (.tmp 58) (.tmp 61) rfl w.heap.size _ _ rfl HO.out.1.own _ 4 (be4 tag) rfl HO.out.2 (fun e => by cases e) (by simp [be4]) HO.out.1.bel.size ?_; intro v10 W12 ho hb hg hv; have HO := Lib.hid (HO.out.1.app ho hg hv); clear ho hb hg hv)
    obtain ⟨l0, hl0⟩ : ∃ l, l = [opb, fl, s0, s1, ahs.length / 4, 0, data.length / 256, data.length % 256] ++ be4 (lun / 4294967296) ++ be4 (lun % 4294967296) ++ be4 tag := ⟨_, rfl⟩
    have HO2 : Hid (EncO w W12 w.heap.size #[.int .i64 (op : Nat), .bool imm, .int .u8 (fl : Nat), .int .u8 (s0 : Nat), .int .u8 (s1 : Nat), .slice aa ahs.length ac, .int .u64 (lun : Nat), .int .u32 (tag : Nat), .int .u32 (w0 : Nat), .int .u32 (w1 : Nat), .int .u32 (w2 : Nat), .int .u32 (w3 : Nat), .int .u32 (w4 : Nat), .int .u32 (w5 : Nat), .int .u32 (w6 : Nat), .slice da data.length dc] v10 l0) := Lib.hid (by rw [hl0]; exact HO.out)
    have hl0n : l0.length = 20 := by rw [hl0]; rfl
    have HHP : Hid (l0 ++ [w0, w1, w2, w3, w4, w5, w6].flatMap be4 = headP (PDn op imm fl s0 s1 ahs lun tag w0 w1 w2 w3 w4 w5 w6 data)) := Lib.hid (by rw [hl0, HOB.out]; simp [headP, be8, opByte])
    clear HO hl0
    go_cut [8] (fun s8 wx => EncO w wx w.heap.size #[.int .i64 (op : Nat), .bool imm, .int .u8 (fl : Nat), .int .u8 (s0 : Nat), .int .u8 (s1 : Nat), .slice aa ahs.length ac, .int .u64 (lun : Nat), .int .u32 (tag : Nat), .int .u32 (w0 : Nat), .int .u32 (w1 : Nat), .int .u32 (w2 : Nat), .int .u32 (w3 : Nat), .int .u32 (w4 : Nat), .int .u32 (w5 : Nat), .int .u32 (w6 : Nat), .slice da data.length dc] s8 (headP (PDn op imm fl s0 s1 ahs lun tag w0 w1 w2 w3 w4 w5 w6 data)))
    case first =>
     as_aux_lemma =>
      go_wp2_with fail
      go_loopw [8, 9] (fun v i wr => ∃ k : Nat, k ≤ 7 ∧ i = .int .i64 k ∧ EncO w wr w.heap.size #[.int .i64 (op : Nat), .bool imm, .int .u8 (fl : Nat), .int .u8 (s0 : Nat), .int .u8 (s1 : Nat), .slice aa ahs.length ac, .int .u64 (lun : Nat), .int .u32 (tag : Nat), .int .u32 (w0 : Nat), .int .u32 (w1 : Nat), .int .u32 (w2 : Nat), .int .u32 (w3 : Nat), .int .u32 (w4 : Nat), .int .u32 (w5 : Nat), .int .u32 (w6 : Nat), .slice da data.length dc] v (l0 ++ ([w0, w1, w2, w3, w4, w5, w6].take k).flatMap be4)) (fun _ i _ => 7 - (intOf i).toNat)
      case atStart => exact ⟨0, by omega, rfl, by simp; exact HO2.out⟩
      case round =>
        clear HO2
        obtain ⟨k, hk, rfl, ho⟩ := hrel
        by_cases hk7 : k < 7
        · have hx2 : [w0, w1, w2, w3, w4, w5, w6].getD k 0 < 4294967296 := HP.out.1.words _ (by simp [List.getD, List.getElem?_eq_getElem (show k < [w0, w1, w2, w3, w4, w5, w6].length from hk7)])
          have hc := ho.p.cell (8 + k) (v := .int .u32 (([w0, w1, w2, w3, w4, w5, w6].getD k 0 : Nat) : Int)) (by rcases (by omega : k = 0 ∨ k = 1 ∨ k = 2 ∨ k = 3 ∨ k = 4 ∨ k = 5 ∨ k = 6) with rfl | rfl | rfl | rfl | rfl | rfl | rfl <;> rfl)
          have htk : [w0, w1, w2, w3, w4, w5, w6].take (k + 1) = [w0, w1, w2, w3, w4, w5, w6].take k ++ [[w0, w1, w2, w3, w4, w5, w6].getD k 0] := by rcases (by omega : k = 0 ∨ k = 1 ∨ k = 2 ∨ k = 3 ∨ k = 4 ∨ k = 5 ∨ k = 6) with rfl | rfl | rfl | rfl | rfl | rfl | rfl <;> rfl
          have HT := Lib.hid htk
          clear htk
          generalize [w0, w1, w2, w3, w4, w5, w6].getD k 0 = x at *
          have HO := Lib.hid ho
          have hll : (([w0, w1, w2, w3, w4, w5, w6].take k).flatMap be4).length ≤ 28 := by rcases (by omega : k = 0 ∨ k = 1 ∨ k = 2 ∨ k = 3 ∨ k = 4 ∨ k = 5 ∨ k = 6) with rfl | rfl | rfl | rfl | rfl | rfl | rfl <;> simp [be4]
          clear ho
          go_wp2_with fail
          refine (four_any x hx2 _).mono ?_
          rintro e W13 ⟨rfl, hy, hb, hlt4⟩
          have HO := Lib.hid (And.intro (HO.out.below hb) hy)
          clear hy hb hc
          go_wp2_with (at_builtin; refine wpList_app rfl (.tmp 67) (.tmp 72) rfl w.heap.size _ _ rfl HO.out.1.own _ 4 (be4 x) rfl HO.out.2 (fun e => by cases e) (by rw [List.length_append, hl0n]; simp only [be4, List.length_cons, List.length_nil]; omega) HO.out.1.bel.size ?_; intro v13 W14 ho hb hg hv; have HO := Lib.hid (HO.out.1.app ho hg hv); clear ho hb hg hv)
          go_roundw
          case rel => exact ⟨k + 1, by omega, by go_num, by rw [HT.out, List.flatMap_append, ← List.append_assoc]; simp only [List.flatMap_cons, List.flatMap_nil, List.append_nil]; exact HO.out⟩
          case measure => simp [intOf]; omega
        · obtain rfl : k = 7 := by omega
          rw [show [w0, w1, w2, w3, w4, w5, w6].take 7 = [w0, w1, w2, w3, w4, w5, w6] from rfl, HHP.out] at ho
          have HO := Lib.hid ho
          clear ho
          go_wp2_with fail
          go_meet
          exact HO.out
    case rest =>
      clear HO2
      have HO := Lib.hid hcut
      clear hcut
      have c5 := HO.out.p.cell 5 (v := .slice aa ahs.length ac) rfl
      have hH := headP_length (PDn op imm fl s0 s1 ahs lun tag w0 w1 w2 w3 w4 w5 w6 data) HP.out.1.wl
      obtain ⟨HD, hHD⟩ : ∃ l, l = headP (PDn op imm fl s0 s1 ahs lun tag w0 w1 w2 w3 w4 w5 w6 data) := ⟨_, rfl⟩
      rw [← hHD] at HO hH
      have HHD := Lib.hid hHD
      clear hHD HHP
      go_upto_if 78 with (at_builtin; refine wpList_app rfl (.tmp 74) (.tmp 76) rfl w.heap.size _ _ rfl HO.out.own aa ac ahs rfl (HP.out.2.1.of_below HO.out.bel) HP.out.2.2.2.1 (by omega) HO.out.bel.size ?_; intro v14 W14 ho hb hg hv; have HO := Lib.hid (HO.out.app ho hg hv); clear ho hb hg hv)
      clear c5
      go_cut [8] (fun s8 wx => EncO w wx w.heap.size #[.int .i64 (op : Nat), .bool imm, .int .u8 (fl : Nat), .int .u8 (s0 : Nat), .int .u8 (s1 : Nat), .slice aa ahs.length ac, .int .u64 (lun : Nat), .int .u32 (tag : Nat), .int .u32 (w0 : Nat), .int .u32 (w1 : Nat), .int .u32 (w2 : Nat), .int .u32 (w3 : Nat), .int .u32 (w4 : Nat), .int .u32 (w5 : Nat), .int .u32 (w6 : Nat), .slice da data.length dc] s8 (headsP (PDn op imm fl s0 s1 ahs lun tag w0 w1 w2 w3 w4 w5 w6 data) h))
      case first =>
       as_aux_lemma =>
        cases h with
        | false =>
          go_wp2_with fail
          go_meet
          have e : headsP (PDn op imm fl s0 s1 ahs lun tag w0 w1 w2 w3 w4 w5 w6 data) false = HD ++ ahs := by rw [HHD.out]; simp [headsP]
          rw [e]; exact HO.out
        | true =>
          obtain ⟨a14, k14, rfl, hb14, -, -, -⟩ := HO.out.own.form
          have HB := Lib.hid hb14
          clear hb14
          obtain ⟨n14, hn14⟩ : ∃ n, n = (HD ++ ahs).length := ⟨_, rfl⟩
          rw [← hn14] at HO ⊢
          have hn14b : n14 ≤ 80 := by rw [hn14, List.length_append]; omega
          have HN := Lib.hid hn14
          clear hn14
          go_wp2_with fail
          refine (sumR_any (HD ++ ahs) n14 _ _ HN.out.symm HB.out (by omega)).mono ?_
          rintro e W15 ⟨rfl, hy, hb, hlt5⟩
          have HO := Lib.hid (And.intro (HO.out.below hb) hy)
          clear hy hb
          go_wp2_with (at_builtin; refine wpList_app rfl (.tmp 79) (.tmp 81) rfl w.heap.size _ _ rfl HO.out.1.own _ 4 (sumd (HD ++ ahs)) rfl HO.out.2 (fun e => by cases e) (by rw [sumd_length]; have := HN.out; omega) HO.out.1.bel.size ?_; intro v15 W16 ho hb hg hv; have HO := Lib.hid (HO.out.1.app ho hg hv); clear ho hb hg hv)
          go_meet
          have e : headsP (PDn op imm fl s0 s1 ahs lun tag w0 w1 w2 w3 w4 w5 w6 data) true = HD ++ ahs ++ sumd (HD ++ ahs) := by rw [HHD.out]; simp [headsP]
          rw [e]; exact HO.out
      case rest =>
        have HO5 := Lib.hid hcut
        clear hcut HO hH
        obtain ⟨hs, hhs⟩ : ∃ l, l = headsP (PDn op imm fl s0 s1 ahs lun tag w0 w1 w2 w3 w4 w5 w6 data) h := ⟨_, rfl⟩
        rw [← hhs] at HO5
        have hsl : hs.length ≤ 84 := by rw [hhs, headsP_length _ HP.out.1.wl]; simp only; split <;> omega
        have HEN : Hid (encP (PDn op imm fl s0 s1 ahs lun tag w0 w1 w2 w3 w4 w5 w6 data) h d = hs ++ dataP (PDn op imm fl s0 s1 ahs lun tag w0 w1 w2 w3 w4 w5 w6 data) d) := Lib.hid (by rw [encP, if_pos HP.out.2.2.2.2.2, hhs])
        clear hhs HHD
        have c15 := HO5.out.p.cell 15 (v := .slice da data.length dc) rfl
        by_cases hz : data = []
        · have z1 : ((data.length : Int) == 0) = true := by simp [hz]
          have HZ := Lib.hid hz
          clear hz
          go_wp2_with fail
          go_ret
          exact ⟨_, rfl, by rw [HEN.out, dataP, if_pos HZ.out, List.append_nil]; exact HO5.out.own, HO5.out.bel⟩
        · have z1 : ((data.length : Int) == 0) = false := by
            have : 0 < data.length := List.length_pos_iff.2 hz
            simp; omega
          have HZ := Lib.hid hz
          clear hz
          go_upto_block 2 with (at_builtin; refine wpList_app rfl (.const (.slice none 0 0)) (.tmp 89) rfl wc.heap.size (.slice none 0 0) [] rfl (Own.nil _ _) da dc data rfl (HP.out.2.2.1.of_below HO5.out.bel) HP.out.2.2.2.2.1 (by simp; omega) (Nat.le_refl _) ?_; intro v19 W19 ho hb hg hv; have HT := Lib.hid (HO5.out.two ho hb); clear ho hb hg hv)
          have HT0 : Hid (EncT w W19 w.heap.size #[.int .i64 (op : Nat), .bool imm, .int .u8 (fl : Nat), .int .u8 (s0 : Nat), .int .u8 (s1 : Nat), .slice aa ahs.length ac, .int .u64 (lun : Nat), .int .u32 (tag : Nat), .int .u32 (w0 : Nat), .int .u32 (w1 : Nat), .int .u32 (w2 : Nat), .int .u32 (w3 : Nat), .int .u32 (w4 : Nat), .int .u32 (w5 : Nat), .int .u32 (w6 : Nat), .slice da data.length dc] u8 hs v19 (data ++ List.replicate 0 0)) := Lib.hid (by have := HT.out; rw [List.nil_append] at this; rw [List.replicate_zero, List.append_nil]; exact this)
          clear HT c15 HO5
          go_cut [10] (fun s10 wx => EncT w wx w.heap.size #[.int .i64 (op : Nat), .bool imm, .int .u8 (fl : Nat), .int .u8 (s0 : Nat), .int .u8 (s1 : Nat), .slice aa ahs.length ac, .int .u64 (lun : Nat), .int .u32 (tag : Nat), .int .u32 (w0 : Nat), .int .u32 (w1 : Nat), .int .u32 (w2 : Nat), .int .u32 (w3 : Nat), .int .u32 (w4 : Nat), .int .u32 (w5 : Nat), .int .u32 (w6 : Nat), .slice da data.length dc] u8 hs s10 (pad data))
          case first =>
           as_aux_lemma =>
            go_wp2_with fail
            go_loopw [10] (fun v wr => ∃ j, j ≤ (4 - data.length % 4) % 4 ∧ EncT w wr w.heap.size #[.int .i64 (op : Nat), .bool imm, .int .u8 (fl : Nat), .int .u8 (s0 : Nat), .int .u8 (s1 : Nat), .slice aa ahs.length ac, .int .u64 (lun : Nat), .int .u32 (tag : Nat), .int .u32 (w0 : Nat), .int .u32 (w1 : Nat), .int .u32 (w2 : Nat), .int .u32 (w3 : Nat), .int .u32 (w4 : Nat), .int .u32 (w5 : Nat), .int .u32 (w6 : Nat), .slice da data.length dc] u8 hs v (data ++ List.replicate j 0)) (fun v _ => 1000 - lenOf v)
            case atStart => exact ⟨0, by omega, HT0.out⟩
            case round =>
              clear HT0
              obtain ⟨j, hj, ho⟩ := hrel
              have HO := Lib.hid ho
              clear ho
              obtain ⟨a7, k7, rfl, -, -, -, -⟩ := HO.out.own.form
              obtain ⟨n7, hn7⟩ : ∃ n, n = (data ++ List.replicate j 0).length := ⟨_, rfl⟩
              rw [← hn7] at ⊢
              have hn7b : n7 = data.length + j := by rw [hn7]; simp
              have HN7 := Lib.hid (And.intro hn7 hn7b)
              by_cases hlt : j < (4 - data.length % 4) % 4
              · have z2 : decide ((0 : Int) < (n7 : Int) % 4) = true := by simp; omega
                have HJ := Lib.hid hlt
                have hn8 : n7 < 400 := by omega
                clear hlt hn7 hn7b hj
                go_wp2_with (at_builtin; refine wpList_app' rfl (.tmp 95) (.tmp 96) rfl w.heap.size _ (data ++ List.replicate j 0) (by rw [HN7.out.1]; rfl) (HO.out.alloc (.cells #[.int .u8 0] 5)).own (some ⟨wr.heap.size, 0, none⟩) 1 1 [0] rfl rfl (new_zero wr _) (fun e => by cases e) (by have := HN7.out; simp only [List.length_cons, List.length_nil]; omega) (HO.out.alloc (.cells #[.int .u8 0] 5)).o.bel.size ?_; intro v28 W28 ho hb hg hv; have HO8 := Lib.hid ((HO.out.alloc _).app ho hg hv); clear ho hb hg hv)
                go_roundw
                case rel =>
                  have e : data ++ List.replicate (j + 1) 0 = data ++ List.replicate j 0 ++ [0] := by rw [List.replicate_succ', List.append_assoc data]
                  exact ⟨j + 1, by have := HJ.out; omega, by rw [e]; exact HO8.out⟩
                case measure =>
                  obtain ⟨a8, k8, hv8, -⟩ := HO8.out.own.form
                  have h1 := HN7.out.1
                  rw [hv8]
                  simp only [lenOf]
                  rw [List.length_append, ← h1]
                  simp only [List.length_cons, List.length_nil]
                  omega
              · have z2 : decide ((0 : Int) < (n7 : Int) % 4) = false := by simp; omega
                have HJ : Hid (j = (4 - data.length % 4) % 4) := Lib.hid (by omega)
                clear hlt hn7 hn7b hj
                go_wp2_with fail
                go_meet
                have e : pad data = data ++ List.replicate j 0 := by rw [HJ.out, pad]
                rw [e, HN7.out.1]
                exact HO.out
          case rest =>
            have HT := Lib.hid hcut
            clear hcut HT0
            go_upto_if 98 with fail
            go_cut [10] (fun s10 wx => EncT w wx w.heap.size #[.int .i64 (op : Nat), .bool imm, .int .u8 (fl : Nat), .int .u8 (s0 : Nat), .int .u8 (s1 : Nat), .slice aa ahs.length ac, .int .u64 (lun : Nat), .int .u32 (tag : Nat), .int .u32 (w0 : Nat), .int .u32 (w1 : Nat), .int .u32 (w2 : Nat), .int .u32 (w3 : Nat), .int .u32 (w4 : Nat), .int .u32 (w5 : Nat), .int .u32 (w6 : Nat), .slice da data.length dc] u8 hs s10 (dataP (PDn op imm fl s0 s1 ahs lun tag w0 w1 w2 w3 w4 w5 w6 data) d))
            case first =>
             as_aux_lemma =>
              have e : dataP (PDn op imm fl s0 s1 ahs lun tag w0 w1 w2 w3 w4 w5 w6 data) d = pad data ++ (if d then sumd (pad data) else []) := by rw [dataP, if_neg HZ.out]
              have HE := Lib.hid e
              clear e
              cases d with
              | false =>
                go_wp2_with fail
                go_meet
                have e2 : dataP (PDn op imm fl s0 s1 ahs lun tag w0 w1 w2 w3 w4 w5 w6 data) false = pad data := by rw [HE.out]; simp
                rw [e2]; exact HT.out
              | true =>
                obtain ⟨a22, k22, rfl, hb22, -, -, -⟩ := HT.out.own.form
                have HB := Lib.hid hb22
                clear hb22
                obtain ⟨n22, hn22⟩ : ∃ n, n = (pad data).length := ⟨_, rfl⟩
                rw [← hn22] at HT ⊢
                have hn22b : n22 ≤ 260 := by rw [hn22, pad_length]; omega
                have HN := Lib.hid hn22
                clear hn22
                go_wp2_with fail
                refine (sumR_any (pad data) n22 _ _ HN.out.symm HB.out (by omega)).mono ?_
                rintro e W23 ⟨rfl, hy, hb, hlt6⟩
                have HT := Lib.hid (And.intro (HT.out.below hb) hy)
                clear hy hb
                go_wp2_with (at_builtin; refine wpList_app rfl (.tmp 99) (.tmp 101) rfl w.heap.size _ _ rfl HT.out.1.own _ 4 (sumd (pad data)) rfl HT.out.2 (fun e => by cases e) (by rw [sumd_length]; have := HN.out; omega) HT.out.1.o.bel.size ?_; intro v23 W24 ho hb hg hv; have HT := Lib.hid (HT.out.1.app ho hg hv); clear ho hb hg hv)
                go_meet
                have e2 : dataP (PDn op imm fl s0 s1 ahs lun tag w0 w1 w2 w3 w4 w5 w6 data) true = pad data ++ sumd (pad data) := by rw [HE.out]; rfl
                rw [e2]; exact HT.out
            case rest =>
              clear HT
              obtain ⟨a25, k25, rfl, hb25, -, hm25, hx25⟩ := hcut.own.form
              have HT := Lib.hid (And.intro hcut hb25)
              have hc25 : a25 = none → k25 = 0 := by
                intro hn
                rcases hcut.own.1.2 with ⟨h1, _⟩ | ⟨q, _, _, h1, _⟩
                · injection h1
                · injection h1 with h1; rw [hn] at h1; cases h1
              have HC := Lib.hid hc25
              have hl25 : (dataP (PDn op imm fl s0 s1 ahs lun tag w0 w1 w2 w3 w4 w5 w6 data) d).length ≤ 264 := by rw [dataP_length]; simp only; split <;> omega
              clear hcut hb25 hm25 hx25 hc25
              go_wp2_with (at_builtin; refine wpList_app rfl (.tmp 103) (.tmp 104) rfl w.heap.size _ _ rfl HT.out.1.o.own a25 k25 (dataP (PDn op imm fl s0 s1 ahs lun tag w0 w1 w2 w3 w4 w5 w6 data) d) rfl HT.out.2 HC.out (by omega) HT.out.1.o.bel.size ?_; intro v25 W26 ho hb hg hv; have HO := Lib.hid (HT.out.1.o.app ho hg hv); clear ho hb hg hv)
              go_ret
              exact ⟨_, rfl, by rw [HEN.out]; exact HO.out.own, HO.out.bel⟩
end Go.Proofs.Ytaehaclmagnncaa
