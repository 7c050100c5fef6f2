/-
  pdu: a slice of PDUs that came in; what is encoded of many.
-/
import Derived.Test.YtaehaclmagnncaaPduSt
import Derived.Test.YtaehaclmagnncaaPduArg
import Derived.Deep.MidRow
namespace Go.Proofs.Ytaehaclmagnncaa
set_option linter.unusedVariables false
set_option linter.unusedSimpArgs false
open Go.RowKit
attribute [local go_sem ↓] Go.wp_at_zero Go.wp_at_succ

/-- A PDU as it came in: its numbers, and where its bytes lie. -/
structure PE where
  p : PD := {}
  aa : Option Addr := none
  ac : Nat := 0
  da : Option Addr := none
  dc : Nat := 0
def PE.cells (e : PE) : Array Value := pdC e.p e.aa e.ac e.da e.dc
def PE.In (w : World) (e : PE) : Prop := PdIn w (.agg e.cells) e.p e.aa e.ac e.da e.dc
/-- A slice of PDUs. -/
structure PdsIn (w : World) (a : Option Addr) (ps : List PE) : Prop where
  el : ∀ i, i < ps.length → PE.In w (ps.getD i {})
  at_ : ps = [] ∨ ∃ b off, a = some ⟨b, off, none⟩ ∧ b < w.heap.size ∧ ∀ i, i < ps.length → w.rangeAt b (off + i * 16) (ps.getD i {}).cells.toList
theorem PdsIn.below {w w' : World} {a : Option Addr} {ps : List PE} (h : PdsIn w a ps) (hb : Below w.heap.size w w') : PdsIn w' a ps := by
  refine ⟨fun i hi => (h.el i hi).below hb, h.at_.imp id ?_⟩
  rintro ⟨b, off, rfl, hlt, hr⟩
  refine ⟨b, off, rfl, Nat.lt_of_lt_of_le hlt hb.size, fun i hi j v hv => ?_⟩
  exact (hb.cell (p := ⟨b, off + i * 16 + j, none⟩) hlt).trans (hr i hi j v hv)
theorem rdv_pds {w : World} {v : Value} {d : D} (h : RdV Try.prog w 47 v d) : ∃ a cap ps, v = .slice a (List.length ps) cap ∧ ps.length ≤ cap ∧ cap ≤ 2000000000000 ∧ PdsIn w a ps := by
  have hce : Try.prog.cellsOf 28 = 16 := by kernel_rfl
  have hby : Try.prog.bytesOf 28 = 104 := by kernel_rfl
  obtain ⟨a, len, cap, rows, rfl, h1, h2, h3, h4, hlen, hrd, hat⟩ := h.rows Try.underlying47 (by rw [hce]; decide)
  rw [hce] at hlen hat
  rw [hby] at h3
  unfold reachBytes at h3
  have key : ∀ i, i < len → ∃ e : PE, rows i = e.cells.toList ∧ PE.In w e := by
    intro i hi
    obtain ⟨d, hd⟩ := hrd i hi
    obtain ⟨p, aa, ac, da, dc, hp⟩ := rd_pdu hd
    have hv := hp.val
    injection hv with hv
    refine ⟨⟨p, aa, ac, da, dc⟩, ?_, ⟨rfl, hp.ok, hp.ab, hp.db, hp.an, hp.dn, hp.al, hp.dl, hp.ac, hp.dc⟩⟩
    show rows i = (pdC p aa ac da dc).toList
    rw [← hv]
  obtain ⟨ps, hps, hpr⟩ := choose_list key
  subst hps
  refine ⟨a, cap, ps, rfl, h1, by omega, ⟨fun i hi => ?_, ?_⟩⟩
  · have e : ps[i]? = some (ps.getD i {}) := by rw [List.getD_eq_getElem?_getD, List.getElem?_eq_getElem hi]; rfl
    exact (hpr i _ e).2
  · rcases hat with h0 | ⟨b, off, rfl, hlt, hc⟩
    · left; exact List.length_eq_zero_iff.1 h0
    · refine .inr ⟨b, off, rfl, hlt (by decide), fun i hi j v hv => ?_⟩
      have e : ps[i]? = some (ps.getD i {}) := by rw [List.getD_eq_getElem?_getD, List.getElem?_eq_getElem hi]; rfl
      have hr := (hpr i _ e).1
      rw [← hr] at hv
      have hj : j < 16 := by
        have := (List.getElem?_eq_some_iff.1 hv).1
        rw [hlen i hi] at this; exact this
      have := hc i hi j hj
      rw [hv, ← Nat.add_assoc] at this
      exact this
/-- What is encoded, one behind the other. -/
def cat (ps : List PE) (h d : Bool) : List Nat := (ps.map fun e => encP e.p h d).flatten
theorem cat_nil (h d : Bool) : cat [] h d = [] := rfl
theorem cat_snoc (ps : List PE) (k : Nat) (hk : k < ps.length) (h d : Bool) : cat (ps.take (k + 1)) h d = cat (ps.take k) h d ++ encP (ps.getD k {}).p h d := by
  unfold cat
  rw [List.take_succ_eq_append_getElem hk, List.map_append, List.flatten_append]
  simp [List.getD_eq_getElem?_getD, List.getElem?_eq_getElem hk]
theorem cat_drop (ps : List PE) (k : Nat) (hk : k < ps.length) (h d : Bool) : cat (ps.drop k) h d = encP (ps.getD k {}).p h d ++ cat (ps.drop (k + 1)) h d := by
  unfold cat
  rw [List.drop_eq_getElem_cons hk, List.map_cons, List.flatten_cons, List.getD_eq_getElem?_getD, List.getElem?_eq_getElem hk, Option.getD_some]
theorem cat_split (ps : List PE) (k : Nat) (h d : Bool) : cat ps h d = cat (ps.take k) h d ++ cat (ps.drop k) h d := by
  unfold cat
  rw [← List.flatten_append, ← List.map_append, List.take_append_drop]
theorem enc_len (p : PD) (hw : p.words.length = 7) (h d : Bool) : (encP p h d).length ≤ 400 := by
  by_cases hm : p.may = true
  · rw [encP_length p hw hm, sizeP]
    obtain ⟨h1, h2, h3, h4, h5⟩ := may_iff.1 hm
    split <;> split <;> omega
  · rw [encP, if_neg hm]; simp
theorem cat_len (ps : List PE) (hw : ∀ i, i < ps.length → (ps.getD i {}).p.words.length = 7) (h d : Bool) : ∀ k, k ≤ ps.length → (cat (ps.take k) h d).length ≤ 400 * k
  | 0, _ => by simp [cat]
  | k + 1, hk => by
    have h1 := cat_len ps hw h d k (by omega)
    have h2 := enc_len (ps.getD k {}).p (hw k (by omega)) h d
    rw [cat_snoc ps k (by omega), List.length_append]; omega
/-- A row loaded out of the middle of a block, behind a guard that holds. -/
theorem wpList_load_mid_g {P : Program} {ops : Array Oper} {rest : List Oper} {op : Oper} {a : Act} {w : World} {Q : Exit → Act → World → Prop} (hw : Region.wanted op (yielded ops a.tmps) = true) (ty : TypeId) (x : Operand) (ho : op.op = .load ty x)
    (b o : Nat) (hx : a.eval x = .pointer (some ⟨b, o, none⟩)) (cs : List Value) (d : TypeDesc) (hc : w.rangeAt b o cs)
    (hu : P.underlying ty = some d) (hd : d.isRow = true) (hi : (P.info? ty).map (·.size) = some cs.length)
    (h : wpList P ops Q rest (a.put op.dst (.agg cs.toArray)) w) : wpList P ops Q (op :: rest) a w :=
  wpList_wanted hw fun _ hK => wp_load_mid ty x ho b o hx cs d hc hu hd hi (hK _ _ h)
/-- A PDU out of a slice is loaded. -/
theorem load_pe {ops : Array Oper} {rest : List Oper} {op : Oper} {a : Act} {w : World} {Q : Exit → Act → World → Prop} (hw : Region.wanted op (yielded ops a.tmps) = true) (x : Operand) (ho : op.op = .load 28 x)
    (b o : Nat) (hx : a.eval x = .pointer (some ⟨b, o, none⟩)) (e : PE) (hc : w.rangeAt b o e.cells.toList)
    (h : wpList Try.prog ops Q rest (a.put op.dst (.agg e.cells)) w) : wpList Try.prog ops Q (op :: rest) a w :=
  wpList_load_mid_g hw 28 x ho b o hx e.cells.toList _ hc Try.underlying28 rfl (by kernel_rfl) (by rw [Array.toArray_toList]; exact h)
/-- A PDU in a block of its own is loaded. -/
theorem load_pb {ops : Array Oper} {rest : List Oper} {op : Oper} {a : Act} {w : World} {Q : Exit → Act → World → Prop} (hw : Region.wanted op (yielded ops a.tmps) = true) (x : Operand) (ho : op.op = .load 28 x)
    (b : Nat) (hx : a.eval x = .pointer (some ⟨b, 0, none⟩)) (p : PD) (aa : Option Addr) (ac : Nat) (da : Option Addr) (dc : Nat) (hc : IsBlk w b (pdC p aa ac da dc) 28)
    (h : wpList Try.prog ops Q rest (a.put op.dst (.agg (pdC p aa ac da dc))) w) : wpList Try.prog ops Q (op :: rest) a w :=
  wpList_load_row_g hw 28 x ho b hx 28 (pdC p aa ac da dc) (0, 0) _ hc Try.underlying28 rfl (by kernel_rfl) h
/-- A PDU is stored into a new block. -/
theorem store_pb {ops : Array Oper} {rest : List Oper} {op : Oper} {a : Act} {w : World} {Q : Exit → Act → World → Prop} (hgd : op.guard = none) (x y : Operand) (ho : op.op = .store 28 x y)
    (W0 : World) (hW : w = W0.alloc (.cells pdZ 28)) (hx : a.eval x = .pointer (some ⟨W0.heap.size, 0, none⟩)) (p : PD) (aa : Option Addr) (ac : Nat) (da : Option Addr) (dc : Nat) (hy : a.eval y = .agg (pdC p aa ac da dc))
    (h : ∀ W', Below W0.heap.size W0 W' → IsBlk W' W0.heap.size (pdC p aa ac da dc) 28 → wpList Try.prog ops Q rest (a.put op.dst undef) W') : wpList Try.prog ops Q (op :: rest) a w := by
  subst hW
  have hn := row_new W0 (pdC p aa ac da dc)
  exact wpList_store_row hgd 28 x y ho W0.heap.size (pdC p aa ac da dc) hx hy 28 pdZ (IsBlk.new W0 _ _) (by kernel_rfl) rfl (pdC_one _ _ _ _ _) (h _ hn.1 hn.2)
/-- What Next leaves, told closer: but for the reader's own block all is as it was. -/
def NextC (w : World) (B rb : Nat) (br : Bool) (c : Int) (p : PD) (r : List Nat) (e : Ending) (w' : World) : Prop :=
  ∃ aa ac da dc v' tp', e = .returned (.tuple #[.agg (pdC p aa ac da dc), .int .i64 c]) ∧ IsBytes w' aa p.ahs ∧ IsBytes w' da p.data ∧ IsRd w' B rb v' tp' r br ∧ Below B w w' ∧ But (fun k => k = rb) w w'
theorem next_c {w : World} {B rb : Nat} {v : Value} {tp : Option Addr} {l : List Nat} (hr : IsRd w B rb v tp l false) (hB : B ≤ w.heap.size) (hlm : l.length ≤ 140737488355328) (h d : Bool) (f : Fd) (c : Int) (p : PD) (r : List Nat) (br : Bool) (hc : c = (f.code : Nat)) (hbr : (f == .broken) = br) (hf : findP l h d = f) (hp : pduP l h d = p) (hrs : restP l h d = r) :
    Calls Try.prog 16 #[.pointer (some ⟨rb, 0, none⟩), .bool h, .bool d] w (NextC w B rb br c p r) := by
  refine (next_any hr hB hlm h d).mono ?_
  rintro e w' ⟨cs, v', tp', rfl, ⟨aa, ac, da, dc, rfl, h1, h2, -, -⟩, h3, h4, -⟩
  rw [hf, hp] at *
  rw [hrs, hbr] at h3
  rw [hc]
  refine ⟨aa, ac, da, dc, v', tp', rfl, h1, h2, h3, h4.below hB ?_, h4⟩
  rintro k rfl
  exact hr.hB
/-- A reader that broke, or will. -/
theorem next_dead {w : World} {B rb : Nat} {v : Value} {tp : Option Addr} {l : List Nat} {br : Bool} (hr : IsRd w B rb v tp l br) (hB : B ≤ w.heap.size) (hlm : l.length ≤ 140737488355328) (h d : Bool) (h1 : br = true → l = []) (h2 : br = false → findP l h d = .broken) :
    Calls Try.prog 16 #[.pointer (some ⟨rb, 0, none⟩), .bool h, .bool d] w (NextB w B rb true 3 {} []) := by
  cases br with
  | true =>
    refine (next_broken hr h d).mono ?_
    rintro e w' ⟨rfl, hb⟩
    have hl := h1 rfl
    subst hl
    exact ⟨none, 0, none, 0, v, tp, rfl, ⟨by simp, .inl rfl⟩, ⟨by simp, .inl rfl⟩, hr.below hb, hb.mono hB⟩
  | false =>
    have hf := h2 rfl
    exact next_b hr hB hlm h d .broken 3 {} [] true rfl rfl hf (broken_told hf).1 (broken_told hf).2
end Go.Proofs.Ytaehaclmagnncaa
