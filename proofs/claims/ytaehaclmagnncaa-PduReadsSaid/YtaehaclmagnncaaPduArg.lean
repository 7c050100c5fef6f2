/-
  pdu: a PDU that came in.
-/
import Derived.Test.YtaehaclmagnncaaPduIf
import Derived.Test.YtaehaclmagnncaaRead3
namespace Go.Proofs.Ytaehaclmagnncaa
set_option linter.unusedVariables false
set_option linter.unusedSimpArgs false
open Go.RowKit

theorem Rd.field_arr {P : Program} {w : World} {t e : TypeId} {fs : Array Field} {cs : List Value} {d : D} {k : IntKind} {n : Nat} (h : Rd P w t cs d) (ht : P.underlying t = some (.struct fs)) (i : Nat) (f : Field) (hf : fs[i]? = some f) (hk : P.underlying f.type = some (.array n e)) (he : P.underlying e = some (.int k)) (hce : P.cellsOf e = 1) (hc : P.cellsOf f.type = n) (j : Nat) (hj : j < n) :
    ∃ z, cs[f.offset + j]? = some (.int k z) ∧ (Lit.int k z).wf = true := by
  obtain ⟨d', hd⟩ := h.field ht i f hf
  obtain ⟨l, -, hlen, hl, hr⟩ := hd.array_inv hk
  obtain ⟨z, hz, -, hw⟩ := (hr j l[j] (List.getElem?_eq_getElem (by omega))).int_inv he
  refine ⟨z, ?_, hw⟩
  rw [hce, hc] at hz
  have h0 : (((((cs.drop f.offset).take n).drop (j * 1)).take 1))[0]? = some (.int k z) := by rw [hz]; rfl
  rw [List.getElem?_take, if_pos (by omega), List.getElem?_drop, List.getElem?_take, if_pos (by omega), List.getElem?_drop] at h0
  simpa using h0
theorem nat_of_u64 {x : Int} (h : (Lit.int .u64 x).wf = true) : ∃ n : Nat, x = (n : Int) ∧ n < 18446744073709551616 := by
  simp only [Lit.wf, IntKind.min, IntKind.max, IntKind.signed, IntKind.bits, Bool.and_eq_true] at h
  exact ⟨x.toNat, by simp at h; omega, by simp at h; omega⟩
/-- A PDU's value that came in. -/
structure PdIn (w : World) (v : Value) (p : PD) (aa : Option Addr) (ac : Nat) (da : Option Addr) (dc : Nat) : Prop where
  val : v = .agg (pdC p aa ac da dc)
  ok : p.Ok
  ab : IsBytes w aa p.ahs
  db : IsBytes w da p.data
  an : aa = none → ac = 0
  dn : da = none → dc = 0
  al : p.ahs.length ≤ ac
  dl : p.data.length ≤ dc
  ac : ac ≤ 140737488351232
  dc : dc ≤ 140737488351232
theorem PdIn.below {w w' : World} {v : Value} {p : PD} {aa da : Option Addr} {ac dc : Nat} (h : PdIn w v p aa ac da dc) (hb : Below w.heap.size w w') : PdIn w' v p aa ac da dc :=
  ⟨h.val, h.ok, h.ab.of_below hb, h.db.of_below hb, h.an, h.dn, h.al, h.dl, h.ac, h.dc⟩
theorem rd_pdu {w : World} {cs : List Value} {d : D} (h : Rd Try.prog w 28 cs d) : ∃ p aa ac da dc, PdIn w (.agg cs.toArray) p aa ac da dc := by
  have hlen : cs.length = 16 := by
    obtain ⟨l, -, h2, -⟩ := h.struct_inv Try.underlying28
    rw [h2]; kernel_rfl
  obtain ⟨op, h0, -⟩ := h.field_int Try.underlying28 0 _ rfl Try.underlying3 (by kernel_rfl)
  obtain ⟨im, h1⟩ := h.field_bool Try.underlying28 1 _ rfl Try.underlying4 (by kernel_rfl)
  obtain ⟨fl, h2, f2⟩ := h.field_int Try.underlying28 2 _ rfl Try.underlying5 (by kernel_rfl)
  obtain ⟨s0, h3, f3⟩ := h.field_arr Try.underlying28 3 _ rfl Try.underlying22 Try.underlying5 (by kernel_rfl) (by kernel_rfl) 0 (by omega)
  obtain ⟨s1, h4, f4⟩ := h.field_arr Try.underlying28 3 _ rfl Try.underlying22 Try.underlying5 (by kernel_rfl) (by kernel_rfl) 1 (by omega)
  obtain ⟨aa, na, ac, za, h5, l5, c5, -, r5, n5, b5⟩ := h.field_ints Try.underlying28 4 _ rfl Try.underlying23 Try.underlying5 (by kernel_rfl) (by kernel_rfl)
  obtain ⟨lu, h6, f6⟩ := h.field_int Try.underlying28 5 _ rfl Try.underlying24 (by kernel_rfl)
  obtain ⟨tg, h7, f7⟩ := h.field_int Try.underlying28 6 _ rfl Try.underlying25 (by kernel_rfl)
  have hw := fun j hj => h.field_arr Try.underlying28 7 _ rfl Try.underlying26 Try.underlying25 (by kernel_rfl) (by kernel_rfl) j hj
  obtain ⟨w0, h8, f8⟩ := hw 0 (by omega)
  obtain ⟨w1, h9, f9⟩ := hw 1 (by omega)
  obtain ⟨w2, h10, f10⟩ := hw 2 (by omega)
  obtain ⟨w3, h11, f11⟩ := hw 3 (by omega)
  obtain ⟨w4, h12, f12⟩ := hw 4 (by omega)
  obtain ⟨w5, h13, f13⟩ := hw 5 (by omega)
  obtain ⟨w6, h14, f14⟩ := hw 6 (by omega)
  obtain ⟨da, nd, dc, zd, h15, l15, c15, -, r15, n15, b15⟩ := h.field_ints Try.underlying28 8 _ rfl Try.underlying23 Try.underlying5 (by kernel_rfl) (by kernel_rfl)
  clear hw
  obtain ⟨fl, rfl, g2⟩ := nat_of_u8 f2
  obtain ⟨s0, rfl, g3⟩ := nat_of_u8 f3
  obtain ⟨s1, rfl, g4⟩ := nat_of_u8 f4
  obtain ⟨lu, rfl, g6⟩ := nat_of_u64 f6
  obtain ⟨tg, rfl, g7⟩ := nat_of_u32 f7
  obtain ⟨w0, rfl, g8⟩ := nat_of_u32 f8
  obtain ⟨w1, rfl, g9⟩ := nat_of_u32 f9
  obtain ⟨w2, rfl, g10⟩ := nat_of_u32 f10
  obtain ⟨w3, rfl, g11⟩ := nat_of_u32 f11
  obtain ⟨w4, rfl, g12⟩ := nat_of_u32 f12
  obtain ⟨w5, rfl, g13⟩ := nat_of_u32 f13
  obtain ⟨w6, rfl, g14⟩ := nat_of_u32 f14
  obtain ⟨la, ha1, ha2, -⟩ := b5.bytes
  obtain ⟨ld, hd1, hd2, -⟩ := b15.bytes
  have e8 : Try.prog.bytesOf 5 = 1 := by kernel_rfl
  rw [e8] at r5 r15
  unfold reachBytes at r5 r15
  have hna : na = la.length := by omega
  have hnd : nd = ld.length := by omega
  subst hna
  subst hnd
  refine ⟨⟨op, im, fl, s0, s1, la, lu, tg, [w0, w1, w2, w3, w4, w5, w6], ld⟩, aa, ac, da, dc, ⟨?_, ⟨g2, g3, g4, ha2.1, g6, g7, rfl, ?_, hd2.1⟩, ha2, hd2, n5, n15, c5, c15, by omega, by omega⟩⟩
  · congr 1
    apply Array.ext'
    show cs = [_, _, _, _, _, _, _, _, _, _, _, _, _, _, _, _]
    match cs, hlen with
    | [x0, x1, x2, x3, x4, x5, x6, x7, x8, x9, x10, x11, x12, x13, x14, x15], _ =>
      have e0 := Option.some.inj h0
      have e1 := Option.some.inj h1
      have e2 := Option.some.inj h2
      have e3 := Option.some.inj h3
      have e4 := Option.some.inj h4
      have e5 := Option.some.inj h5
      have e6 := Option.some.inj h6
      have e7 := Option.some.inj h7
      have e8 := Option.some.inj h8
      have e9 := Option.some.inj h9
      have e10 := Option.some.inj h10
      have e11 := Option.some.inj h11
      have e12 := Option.some.inj h12
      have e13 := Option.some.inj h13
      have e14 := Option.some.inj h14
      have e15 := Option.some.inj h15
      subst e0 e1 e2 e3 e4 e5 e6 e7 e8 e9 e10 e11 e12 e13 e14 e15
      rfl
  · simp only [List.mem_cons, List.not_mem_nil, or_false, forall_eq_or_imp, forall_eq]
    exact ⟨g8, g9, g10, g11, g12, g13, g14⟩
theorem rdv_pdu {w : World} {v : Value} {d : D} (h : RdV Try.prog w 28 v d) : ∃ p aa ac da dc, PdIn w v p aa ac da dc := by
  obtain ⟨cs, l, rfl, rfl, hr⟩ := h.struct Try.underlying28
  obtain ⟨p, aa, ac, da, dc, hp⟩ := rd_pdu hr
  exact ⟨p, aa, ac, da, dc, by simpa using hp⟩
theorem short_pd (p : PD) (aa da : Option Addr) (ac dc : Nat) (w : World) (ha : p.ahs.length ≤ 9223372036854775807) (hd : p.data.length ≤ 9223372036854775807) (b : Bool) (hb : shortB p.ahs.length p.data.length = b) :
    Calls Try.prog 10 #[.agg (pdC p aa ac da dc)] w fun e w' => e = .returned (.bool b) ∧ Below w.heap.size w w' := by
  subst hb
  exact short_any p.op _ _ _ _ _ _ _ _ _ _ _ _ _ aa da p.ahs.length ac p.data.length dc w ha hd
theorem may_pd (p : PD) (aa da : Option Addr) (ac dc : Nat) (w : World) (ha : p.ahs.length ≤ 9223372036854775807) (hd : p.data.length ≤ 9223372036854775807) (b : Bool) (hb : p.may = b) :
    Calls Try.prog 13 #[.agg (pdC p aa ac da dc)] w fun e w' => e = .returned (.bool b) ∧ Below w.heap.size w w' := by
  subst hb
  exact may_any p.op _ _ _ _ _ _ _ _ _ _ _ _ _ aa da p.ahs.length ac p.data.length dc w ha hd
theorem mayR_pd (p : PD) (aa da : Option Addr) (ac dc : Nat) (w : World) (ha : p.ahs.length ≤ 9223372036854775807) (hd : p.data.length ≤ 9223372036854775807) (b : Bool) (hb : p.may = b) :
    Calls Try.prog 14 #[.agg (pdC p aa ac da dc)] w fun e w' => e = .returned (.bool b) ∧ Below w.heap.size w w' := by
  subst hb
  exact mayR_any p.op _ _ _ _ _ _ _ _ _ _ _ _ _ aa da p.ahs.length ac p.data.length dc w ha hd
theorem PdIn.enc {w : World} {v : Value} {p : PD} {aa da : Option Addr} {ac dc : Nat} (h : PdIn w v p aa ac da dc) (hh d : Bool) :
    Calls Try.prog 11 #[.agg (pdC p aa ac da dc), .bool hh, .bool d] w (Encd w (encP p hh d)) :=
  enc_any p h.ok aa da ac dc w h.ab h.db h.an h.dn (by have := h.al; have := h.ac; omega) (by have := h.dl; have := h.dc; omega) hh d
end Go.Proofs.Ytaehaclmagnncaa
