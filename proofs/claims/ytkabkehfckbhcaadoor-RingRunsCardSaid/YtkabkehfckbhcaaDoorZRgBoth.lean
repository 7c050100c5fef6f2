/-
  ring: a disk and the document's, side by side, beside rings.
-/
import Derived.Test.YtkabkehfckbhcaaDoorZRgAdd
import Derived.Test.YtkabkehfckbhcaaDoorZRgRound1
import Derived.Test.YtkabkehfckbhcaaDoorMgE
namespace Go.Proofs.YtkabkehfckbhcaaDoor
set_option linter.unusedVariables false
set_option linter.unusedSimpArgs false
open Go.RowKit

section
variable {X X' : Nat → Prop} {B : Nat} {w w' : World} {db kb : Nat} {d m : DK}
/-- Whatever was made since stays, too. -/
theorem RI.grow (h : RI X B w db kb d m) (hb : Below w.heap.size w w') : RI (Grow X w w') B w' db kb d m := by
  obtain ⟨N, q1, q2, q3, q4⟩ := h
  refine ⟨Grow N w w', ((q1.widen' (N' := fun k => N k ∨ w.heap.size ≤ k) (fun k hk => hk)).below hb).fewer (fun k hk => hk.imp id (fun e => e.1)), (q2.more (fun k hk hN => ⟨.inl hN.1, fun e => e.elim hN.2 (fun e => by omega)⟩)).below hb, fun k hk => hk.elim (fun e => Nat.lt_of_lt_of_le (q3 k e) hb.size) (fun e => e.2), fun k hk => hk.imp (q4 k) id⟩
theorem RI.less (h : RI X B w db kb d m) (hs : ∀ k, X' k → X k) : RI X' B w db kb d m := by
  obtain ⟨N, q1, q2, q3, q4⟩ := h
  exact ⟨N, q1, q2.more (fun k _ hk => ⟨hk.1, fun e => hk.2 (hs k e)⟩), q3, fun k hk => q4 k (hs k hk)⟩
theorem RI.but (h : RI X B w db kb d m) {T : Nat → Prop} (hb : But T w w') (hs : ∀ k, T k → X k) : RI X B w' db kb d m := by
  obtain ⟨N, q1, q2, q3, q4⟩ := h
  exact ⟨N, q1.but' hb (fun k hk => q4 k (hs k hk)), q2.but hb (fun k hk e => hk.2 (hs k e)), fun k hk => Nat.lt_of_lt_of_le (q3 k hk) hb.size, q4⟩
theorem RI.xlt (h : RI X B w db kb d m) {k : Nat} (hk : X k) : k < w.heap.size := by
  obtain ⟨N, q1, q2, q3, q4⟩ := h
  exact q3 k (q4 k hk)
/-- Our ring's Add. -/
theorem RI.addD {rg : Nat} {s : RS} {n kk cc : Nat} {ca : Option Addr} {l : List CH} (h : RI X B w db kb d m) (hrg : IsRg 100 w rg db s) (hX : X rg) (hok : RSok s n) (hon : OnB n kk d) (hkk : kk ≤ 100000) (hc : IsChs w ca l) (h1 : 1 ≤ l.length) (h2 : l.length ≤ 60) (hf : takes l.length ≤ s.n - s.used) (hB : B ≤ w.heap.size) (hrB : B ≤ rg) :
    Calls Tryd.prog 24 #[.pointer (some ⟨rg, 0, none⟩), .slice ca l.length cc] w fun e w' => e = .returned .nilIface ∧ IsRg 100 w' rg db (s.behind l.length (recSum s.last s.num l)) ∧ RI X B w' db kb (putAll s (recPgs s.last s.num l) 0 d) m ∧ But (fun k => ¬ X k ∨ k = rg) w w' ∧ Below B w w' := by
  obtain ⟨N, q1, q2, q3, q4⟩ := h
  refine (add_ok (N := N) (B := B) ⟨hrg, hok, q1, hon, hkk, hc, h1, h2, hf, q4 _ hX, q3, hB, hrB⟩).mono ?_
  rintro e w' ⟨he, r1, r2, r3, r4⟩
  exact ⟨he, r1, ⟨N, r2, q2.but r3 (fun k hk e => e.elim (fun x => x hk.1) (fun x => hk.2 (x ▸ hX))), fun k hk => Nat.lt_of_lt_of_le (q3 k hk) r3.size, q4⟩, r3.mono (fun k hk => hk.imp (fun x y => x (q4 k y)) id), r4⟩
end
end Go.Proofs.YtkabkehfckbhcaaDoor
