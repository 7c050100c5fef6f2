/-
  flow: Split, as a list.
-/
import Derived.Test.YtjmpjdahkliheaaRows
import Derived.Test.YtjmpjdahkliheaaAppend
import Derived.Test.YtjmpjdahkliheaaCommon
namespace Go.Proofs.Ytjmpjdahkliheaa
set_option linter.unusedVariables false
set_option linter.unusedSimpArgs false
open Go.RowKit

/-- The parts from p on, where left bytes of the sequence are to come. -/
def parts (n seg burst p left : Nat) : List (Nat × Nat × Bool) :=
  if h : p < n ∧ 0 < seg ∧ 0 < left ∧ 0 < burst then
    (p, min seg (min left (n - p)), decide (left - min seg (min left (n - p)) = 0) || decide (p + min seg (min left (n - p)) = n)) ::
      parts n seg burst (p + min seg (min left (n - p))) (if left - min seg (min left (n - p)) = 0 then burst else left - min seg (min left (n - p)))
  else []
termination_by n - p
decreasing_by omega

theorem parts_end (n seg burst p left : Nat) (h : n ≤ p) : parts n seg burst p left = [] := by
  rw [parts]; simp; omega
theorem parts_step (n seg burst p left : Nat) (h : p < n) (hs : 0 < seg) (hl : 0 < left) (hb : 0 < burst) (k : Nat) (hk : k = min seg (min left (n - p))) (q : Bool) (hq : q = (decide (left - k = 0) || decide (p + k = n)))
    (left' : Nat) (hl' : left' = if left - k = 0 then burst else left - k) :
    parts n seg burst p left = (p, k, q) :: parts n seg burst (p + k) left' := by
  subst hl' hq hk
  rw [parts]
  simp [h, hs, hl, hb]

/-- Parts that lie one behind the other from p to n. -/
def Tiles (n : Nat) : Nat → List (Nat × Nat × Bool) → Prop
  | p, [] => p = n
  | p, (x, k, f) :: t => x = p ∧ 1 ≤ k ∧ p + k ≤ n ∧ (t = [] → f = true) ∧ Tiles n (p + k) t

theorem tiles_parts (n seg burst : Nat) (hs : 0 < seg) (hb : 0 < burst) : ∀ (d p left : Nat), n - p = d → p ≤ n → 0 < left → Tiles n p (parts n seg burst p left) := by
  intro d
  induction d using Nat.strongRecOn with
  | _ d ih =>
    intro p left hd hp hl
    by_cases h : p < n
    · rw [parts_step n seg burst p left h hs hl hb _ rfl _ rfl _ rfl]
      refine ⟨rfl, by omega, by omega, fun ht => ?_, ih (n - (p + min seg (min left (n - p)))) (by omega) _ _ rfl (by omega) (by split <;> omega)⟩
      by_cases he : p + min seg (min left (n - p)) = n
      · simp [he]
      · exfalso
        rw [parts_step n seg burst _ _ (by omega) hs (by split <;> omega) hb _ rfl _ rfl _ rfl] at ht
        cases ht
    · rw [parts_end n seg burst p left (by omega)]
      show p = n
      omega

theorem tiles_get {n : Nat} : ∀ {l : List (Nat × Nat × Bool)} {p : Nat} (i : Nat) (x : Nat × Nat × Bool), Tiles n p l → l[i]? = some x →
    Tiles n (x.1 + x.2.1) (l.drop (i + 1)) ∧ 1 ≤ x.2.1 ∧ Tiles n x.1 (l.drop i)
  | [], p, i, x, h, hi => by simp at hi
  | (y, k, f) :: t, p, 0, x, h, hi => by
    simp at hi
    subst hi
    obtain ⟨h1, h2, h3, h4, h5⟩ := h
    subst h1
    exact ⟨h5, h2, ⟨rfl, h2, h3, h4, h5⟩⟩
  | (y, k, f) :: t, p, i + 1, x, h, hi => by
    obtain ⟨h1, h2, h3, h4, h5⟩ := h
    have := tiles_get i x h5 (by simpa using hi)
    simpa using this
theorem tiles_at {n : Nat} {l : List (Nat × Nat × Bool)} {p : Nat} (i : Nat) (x : Nat × Nat × Bool) (hi : l[i]? = some x) (q : Nat) (h : Tiles n q (l.drop i)) : x.1 = q ∧ x.1 + x.2.1 ≤ n ∧ 1 ≤ x.2.1 ∧ (i + 1 = l.length → x.2.2 = true) ∧ Tiles n (q + x.2.1) (l.drop (i + 1)) := by
  have hlt := (List.getElem?_eq_some_iff.1 hi).1
  have hx := (List.getElem?_eq_some_iff.1 hi).2
  rw [List.drop_eq_getElem_cons hlt, hx] at h
  obtain ⟨y, k, f⟩ := x
  obtain ⟨h1, h2, h3, h4, h5⟩ := h
  subst h1
  exact ⟨rfl, h3, h2, fun he => h4 (List.drop_eq_nil_of_le (by omega)), h5⟩

def pv (l : List (Nat × Nat × Bool)) : List Value := l.flatMap fun x => [.int .i64 (x.1 : Int), .int .i64 (x.2.1 : Int), .bool x.2.2]
theorem pv_append (l m : List (Nat × Nat × Bool)) : pv (l ++ m) = pv l ++ pv m := by simp [pv]
theorem pv_length : ∀ l : List (Nat × Nat × Bool), (pv l).length = 3 * l.length
  | [] => rfl
  | x :: t => by
    have := pv_length t
    simp only [pv, List.flatMap_cons, List.length_append, List.length_cons, List.length_nil] at *
    omega
theorem pv_one (l : List (Nat × Nat × Bool)) : ∀ u ∈ pv l, u.oneCell' = true := by
  intro u hu
  obtain ⟨x, _, hx⟩ := List.mem_flatMap.1 hu
  simp at hx
  rcases hx with rfl | rfl | rfl <;> rfl
theorem pv_get : ∀ (l : List (Nat × Nat × Bool)) (i : Nat) (x : Nat × Nat × Bool), l[i]? = some x →
    (pv l)[3 * i]? = some (.int .i64 (x.1 : Int)) ∧ (pv l)[3 * i + 1]? = some (.int .i64 (x.2.1 : Int)) ∧ (pv l)[3 * i + 2]? = some (.bool x.2.2)
  | [], i, x, h => by simp at h
  | y :: t, 0, x, h => by
    simp at h
    subst h
    simp [pv]
  | y :: t, i + 1, x, h => by
    have := pv_get t i x (by simpa using h)
    have e : pv (y :: t) = [.int .i64 (y.1 : Int), .int .i64 (y.2.1 : Int), .bool y.2.2] ++ pv t := by simp [pv]
    rw [e]
    refine ⟨?_, ?_, ?_⟩ <;> rw [List.getElem?_append_right (by simp; omega)]
    · rw [← this.1]; congr 1 <;> simp <;> omega
    · rw [← this.2.1]; congr 1 <;> simp <;> omega
    · rw [← this.2.2]; congr 1 <;> simp <;> omega

/-- A row of parts that the call owns. -/
def OwnP (e : TypeId) (w : World) (base : Nat) (v : Value) (l : List (Nat × Nat × Bool)) : Prop := w.ownsRow base e 3 v l.length (pv l)
theorem OwnP.nil (e : TypeId) (w : World) (base : Nat) : OwnP e w base (.slice none 0 0) [] := World.ownsRow_nil w base _ 3

theorem OwnP.form {e : TypeId} {w : World} {base : Nat} {v : Value} {l : List (Nat × Nat × Bool)} (h : OwnP e w base v l) : ∃ a cap, v = .slice a l.length cap ∧ l.length ≤ cap ∧ cap ≤ maxLen ∧
    (l = [] ∨ ∃ b, a = some ⟨b, 0, none⟩ ∧ base ≤ b ∧ b < w.heap.size ∧ ∀ i x, l[i]? = some x → w.cell? ⟨b, 3 * i, none⟩ = some (.int .i64 (x.1 : Int)) ∧ w.cell? ⟨b, 3 * i + 1, none⟩ = some (.int .i64 (x.2.1 : Int)) ∧ w.cell? ⟨b, 3 * i + 2, none⟩ = some (.bool x.2.2)) := by
  obtain ⟨h1, h2⟩ := h
  rcases h2 with ⟨rfl, h0⟩ | ⟨g, cap, cur, rfl, hg, hh, hn, hcap, hsz, htake⟩
  · have : l = [] := List.length_eq_zero_iff.1 h0
    subst this
    exact ⟨none, 0, rfl, by simp, by unfold maxLen; omega, .inl rfl⟩
  · refine ⟨some ⟨g, 0, none⟩, cap, rfl, hn, hcap, .inr ⟨g, rfl, hg, ?_, fun i x hi => ?_⟩⟩
    · by_cases hb : g < w.heap.size
      · exact hb
      · rw [Array.getElem?_eq_none (by omega)] at hh; cases hh
    · have hlt : i < l.length := (List.getElem?_eq_some_iff.1 hi).1
      have hc : ∀ j, j < l.length * 3 → w.cell? ⟨g, j, none⟩ = (pv l)[j]? := by
        intro j hj
        have : w.cell? ⟨g, j, none⟩ = cur[j]? := by unfold World.cell?; rw [hh]; simp
        rw [this, ← htake, List.getElem?_take, if_pos hj]
        simp
      obtain ⟨p1, p2, p3⟩ := pv_get l i x hi
      exact ⟨by rw [hc _ (by omega), p1], by rw [hc _ (by omega), p2], by rw [hc _ (by omega), p3]⟩
theorem OwnP.grown {e : TypeId} {w w' : World} {base : Nat} {v : Value} {l : List (Nat × Nat × Bool)} {row : Option Nat} (h : OwnP e w base v l) (hg : w.grownBy w' row) (hr : v.ownBlock ≠ row ∨ v.ownBlock = none) : OwnP e w' base v l := by
  obtain ⟨h1, h2⟩ := h
  refine ⟨h1, ?_⟩
  rcases h2 with h2 | ⟨g, cap, cur, rfl, hg', hh, r⟩
  · exact .inl h2
  · refine .inr ⟨g, cap, cur, rfl, hg', ?_, r⟩
    have hlt : g < w.heap.size := by
      by_cases hb : g < w.heap.size
      · exact hb
      · rw [Array.getElem?_eq_none (by omega)] at hh; cases hh
    rw [hg.block g hlt (by rcases hr with hr | hr <;> simp_all [Value.ownBlock])]
    exact hh
theorem OwnP.below {e : TypeId} {w w' : World} {base : Nat} {v : Value} {l : List (Nat × Nat × Bool)} (h : OwnP e w base v l) (hb : Below w.heap.size w w') : OwnP e w' base v l :=
  h.grown (row := none) ⟨hb.os, hb.tape, hb.output, hb.size, fun k hk _ => hb.block k hk⟩ (by cases hv : v.ownBlock <;> simp)
theorem OwnP.alloc {e : TypeId} {w : World} {base : Nat} {v : Value} {l : List (Nat × Nat × Bool)} (h : OwnP e w base v l) (o : Obj) : OwnP e (w.alloc o) base v l := h.below ((Below.refl _ _).alloc (Nat.le_refl _) o)
theorem OwnP.base_le {e : TypeId} {w : World} {base : Nat} {v : Value} {l : List (Nat × Nat × Bool)} (h : OwnP e w base v l) : ∀ k, v.ownBlock = some k → base ≤ k := by
  intro k hk
  rcases h.2 with ⟨rfl, _⟩ | ⟨g, cap, cur, rfl, hg, _⟩
  · simp [Value.ownBlock] at hk
  · simp [Value.ownBlock] at hk; omega

theorem Try.infoP : (Try.prog.info? 28).map (fun i => (i.zero, i.size, i.bytes)) = some (some (.agg #[.int .i64 0, .int .i64 0, .bool false]), 3, 24) := by kernel_rfl
theorem Try.infoR : (Try.prog.info? 29).map (fun i => (i.zero, i.size, i.bytes)) = some (some (.agg #[.int .i64 0, .int .i64 0, .bool false]), 3, 24) := by kernel_rfl

/-- append of one part, laid as a block of its own. -/
theorem wpList_part {e t : TypeId} {i0 : TypeInfo} (ht : Try.prog.underlying t = some (.slice e)) (hi : Try.prog.info? e = some i0) (hz : i0.zero = some (.agg #[.int .i64 0, .int .i64 0, .bool false])) (hs : i0.size = 3) (hby : i0.bytes = 24)
    {ops : Array Oper} {rest : List Oper} {o : Oper} {a : Act} {w : World} {Q : Exit → Act → World → Prop} (hgd : o.guard = none) (s x : Operand)
    (ho : o.op = .call { callee := .builtin .append, args := #[s, x], argTypes := #[t, t] })
    (base : Nat) (v : Value) (l : List (Nat × Nat × Bool)) (hv : a.eval s = v) (hown : OwnP e w base v l) (g : Nat) (c : Nat) (m : Nat × Nat × Bool) (hx : a.eval x = .slice (some ⟨g, 0, none⟩) 1 c)
    (h0 : w.cell? ⟨g, 0, none⟩ = some (.int .i64 (m.1 : Int))) (h1 : w.cell? ⟨g, 1, none⟩ = some (.int .i64 (m.2.1 : Int))) (h2 : w.cell? ⟨g, 2, none⟩ = some (.bool m.2.2))
    (hlen : l.length ≤ 100000) (hbase : base ≤ w.heap.size)
    (h : ∀ v' w', OwnP e w' base v' (l ++ [m]) → Below base w w' → wpList Try.prog ops Q rest (a.put o.dst v') w') : wpList Try.prog ops Q (o :: rest) a w := by
  refine wpList_append_src w hgd s x t ho base e i0 _ 3 24 ht hi hz hs hby rfl (by decide) v l.length (pv l) hv hown (some ⟨g, 0, none⟩) 1 c (pv [m]) hx ?_ (by simp) (pv_one _)
    (by unfold maxLen; omega) (by omega) hbase fun v' w' q2 q3 _ => ?_
  · refine ⟨by simp [pv], by simp, fun ad had j u hu => ?_⟩
    cases had
    match j, hu with
    | 0, hu => simp [pv] at hu; subst hu; exact h0
    | 1, hu => simp [pv] at hu; subst hu; exact h1
    | 2, hu => simp [pv] at hu; subst hu; exact h2
    | j + 3, hu => simp [pv] at hu
  · refine h v' w' ?_ ((Below.refl base w).grown q3 hbase hown.base_le)
    show w'.ownsRow base e 3 v' (l ++ [m]).length (pv (l ++ [m]))
    rw [pv_append, List.length_append]
    exact q2

end Go.Proofs.Ytjmpjdahkliheaa
