/-
  pdu: rows of numbers and of bytes, as Encode makes them.
-/
import Derived.Test.YtaehaclmagnncaaPduMay
import Derived.Laws.MakeOwn
namespace Go.Proofs.Ytaehaclmagnncaa
set_option linter.unusedVariables false
set_option linter.unusedSimpArgs false
open Go.RowKit

theorem Try.info32 : (Try.prog.info? 25).map (fun i => (i.zero, i.size, i.bytes)) = some (some (.int .u32 0), 1, 4) := by kernel_rfl
/-- Cells from the head of block q on. -/
def RowC (W : World) (q : Nat) (l : List Nat) : Prop := ∀ i, i < l.length → W.cell? ⟨q, i, none⟩ = some (.int .u32 ((l.getD i 0 : Nat) : Int))
/-- A new row of numbers. -/
structure RowW (W0 W : World) (q : Nat) (l : List Nat) : Prop where
  bel : Below W0.heap.size W0 W
  le : W0.heap.size ≤ q
  row : RowC W q l
theorem RowC.setOther {W : World} {q : Nat} {l : List Nat} (h : RowC W q l) (p : Addr) (v : Value) (hne : q ≠ p.block) : RowC (W.setCell p v) q l := fun i hi => by
  rw [World.cell?_setCell_other W p ⟨q, i, none⟩ v (by intro e; exact hne (by rw [e]))]
  exact h i hi

/-- The literal's row: one number in a block of its own; seven are appended. -/
theorem step_words {ops : Array Oper} {o : Oper} {a : Act} {w : World} {K : Act → World → Prop} {Q : Exit → Act → World → Prop} {E : Prop} (hgd : o.guard = none) (s x : Operand)
    (ho : o.op = .call { callee := .builtin .append, args := #[s, x], argTypes := #[52, 52] }) (W0 : World) (hb : Below W0.heap.size W0 w) (tag : Nat) (b : Nat)
    (hs : a.eval s = .slice (some ⟨b, 0, none⟩) 1 1) (hbb : W0.heap.size ≤ b) (hblk : IsBlk w b #[.int .u32 (tag : Int)] 25) (B : Nat) (ws : List Nat) (hx : a.eval x = .slice (some ⟨B, 8, none⟩) 7 7) (hws : ws.length = 7)
    (hc : ∀ i, i < 7 → w.cell? ⟨B, 8 + i, none⟩ = some (.int .u32 ((ws.getD i 0 : Nat) : Int)))
    (h : ∀ q c w', RowW W0 w' q (tag :: ws) → K (a.put o.dst (.slice (some ⟨q, 0, none⟩) 8 c)) w') :
    if Region.wanted o (yielded ops a.tmps) = true then Oper.wp Try.prog o a w K Q else E := by
  obtain ⟨i0, hi, hz0, hz1, hz2⟩ := info_parts Try.info32
  have hown : w.ownsRow W0.heap.size 25 1 (.slice (some ⟨b, 0, none⟩) 1 1) 1 [.int .u32 (tag : Int)] := ⟨rfl, .inr ⟨b, 1, _, rfl, hbb, hblk, Nat.le_refl _, by unfold maxLen; omega, rfl, rfl⟩⟩
  have hsrc : Src w 1 (some ⟨B, 8, none⟩) 7 (nv .u32 ws).toList := by
    refine ⟨by rw [Array.length_toList, nv_size, hws], fun e => (by cases e), fun ad had j u hu => ?_⟩
    cases had
    rw [Go.WideShapes.add_plain]
    rw [Array.getElem?_toList] at hu
    have hj : j < 7 := by
      have := (Array.getElem?_eq_some_iff.1 hu).1
      rw [nv_size] at this; omega
    rw [nv_get .u32 ws j (by omega)] at hu
    rw [← hu]; exact hc j hj
  refine step_append_src w hgd s x 52 ho W0.heap.size 25 i0 (.int .u32 0) 1 4 Try.underlying52 hi hz0 hz1 hz2 rfl (by decide) _ 1 _ hs hown _ 7 7 _ hx hsrc (fun e => by cases e) (fun u hu => by
      have := nv_one .u32 ws
      exact (Array.all_eq_true_iff_forall_mem.1 this) u (by simpa using hu)) (by unfold maxLen; omega) (by omega) hb.size fun v' w' h2 h3 _ => ?_
  have hbel : Below W0.heap.size W0 w' := hb.trans (((Below.refl W0.heap.size w).grown h3 hb.size (fun k hk => by simp [Value.ownBlock] at hk; omega)))
  obtain ⟨h4, h5⟩ := h2
  rcases h5 with ⟨_, h0⟩ | ⟨q, cap, cur, rfl, hq, hh, hn, hcap, hsz, htake⟩
  · cases h0
  · refine h q cap w' ⟨hbel, hq, fun i hi' => ?_⟩
    have hi8 : i < 8 := by simp [hws] at hi'; omega
    have hcell : w'.cell? ⟨q, i, none⟩ = cur[i]? := by unfold World.cell?; rw [hh]; simp
    rw [hcell, ← Array.getElem?_toList]
    have e : (cur.toList.take ((1 + 7) * 1))[i]? = cur.toList[i]? := by rw [List.getElem?_take, if_pos (by omega)]
    rw [← e, htake]
    cases i with
    | zero => rfl
    | succ j =>
      have : ([Value.int .u32 (tag : Int)] ++ (nv .u32 ws).toList)[j + 1]? = (nv .u32 ws).toList[j]? := by simp
      rw [this, Array.getElem?_toList, nv_get .u32 ws j (by omega)]
      rfl

/-- A row whose first n bytes are known is owned so far. -/
theorem own_prefix {W : World} {g cap base : Nat} {l H : List Nat} (h : IsBlk W g (nv .u8 l) 5) (hl : l.length = cap) (hH : l.take H.length = H) (hc : ∀ c ∈ H, c < 256) (hb : base ≤ g) (hn : H.length ≤ cap) (hm : cap ≤ maxLen) :
    Own W base (.slice (some ⟨g, 0, none⟩) H.length cap) H := by
  refine ⟨⟨by rw [bv_length]; omega, .inr ⟨g, cap, _, rfl, hb, h, hn, hm, by rw [nv_size, hl]; omega, ?_⟩⟩, hc⟩
  rw [Nat.mul_one]
  have : (nv .u8 l).toList = bv l := by simp [nv, bv]
  rw [this]
  have e : (bv l).take H.length = bv (l.take H.length) := by simp [bv, List.map_take]
  rw [e, hH]

/-- Encode's state once the row is a list of its own: the PDU's row and the value that holds the bytes. -/
structure EncO (w W : World) (B : Nat) (P : Array Value) (v : Value) (l : List Nat) : Prop where
  p : IsBlk W B P 28
  own : Own W w.heap.size v l
  bel : Below w.heap.size w W
  ne : ∀ k, v.ownBlock = some k → k ≠ B
theorem EncO.below {w W W' : World} {B : Nat} {P : Array Value} {v : Value} {l : List Nat} (h : EncO w W B P v l) (hb : Below W.heap.size W W') : EncO w W' B P v l :=
  ⟨h.p.below hb h.p.lt, h.own.below hb, h.bel.trans (hb.mono h.bel.size), h.ne⟩
theorem EncO.alloc {w W : World} {B : Nat} {P : Array Value} {v : Value} {l : List Nat} (h : EncO w W B P v l) (o : Obj) : EncO w (W.alloc o) B P v l := h.below ((Below.refl _ _).alloc (Nat.le_refl _) o)
theorem EncO.app {w W W' : World} {B : Nat} {P : Array Value} {v v' : Value} {l l' : List Nat} (h : EncO w W B P v l) (ho : Own W' w.heap.size v' l') (hg : W.grownBy W' v.ownBlock) (hv : v'.ownBlock = v.ownBlock ∨ v'.ownBlock = some W.heap.size) : EncO w W' B P v' l' :=
  ⟨h.p.grown hg (fun e => h.ne B e rfl), ho, h.bel.grown hg h.bel.size h.own.base_le, fun k hk e => by
    rcases hv with hv | hv
    · exact h.ne k (by rw [← hv, hk]) e
    · rw [hk] at hv; injection hv with hv; have := h.p.lt; omega⟩
/-- A new block of four bytes. -/
theorem new_four (W : World) {x c0 c1 c2 c3 : Nat} (h : four x = [c0, c1, c2, c3]) (t : TypeId) : IsBytes (W.alloc (.cells #[.int .u8 (c0 : Int), .int .u8 (c1 : Int), .int .u8 (c2 : Int), .int .u8 (c3 : Int)] t)) (some ⟨W.heap.size, 0, none⟩) [c0, c1, c2, c3] := by
  have hlt : ∀ c ∈ [c0, c1, c2, c3], c < 256 := by
    rw [← h]; simp only [four, List.mem_cons, List.not_mem_nil, or_false, forall_eq_or_imp, forall_eq]; omega
  exact isBytes_row (IsBlk.new W (nv .u8 [c0, c1, c2, c3]) t) hlt
theorem new_zero (W : World) (t : TypeId) : IsBytes (W.alloc (.cells #[.int .u8 0] t)) (some ⟨W.heap.size, 0, none⟩) [0] := isBytes_row (IsBlk.new W (nv .u8 [0]) t) (by simp)
/-- A slice's length. -/
def lenOf : Value → Nat
  | .slice _ n _ => n
  | _ => 0
end Go.Proofs.Ytaehaclmagnncaa
