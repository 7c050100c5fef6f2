/-
  disk: DiskKeeps' two arrays in memory: of each sector the page that lasts, and the pages that may be there.
-/
import Derived.Test.YtjmjfgbpjecgfaaDoorDkN
import Derived.Test.YtjmjfgbpjecgfaaDoorDkKeepsPlain
import Derived.Test.YtjmjfgbpjecgfaaDoorDkAgain
import Derived.Test.YtjmjfgbpjecgfaaDoorHeldT
namespace Go.Proofs.YtjmjfgbpjecgfaaDoor
set_option linter.unusedVariables false
set_option linter.unusedSimpArgs false
open Go.RowKit

theorem RowF.ne_blk {α : Type} {f : α → List Value} {c : Nat} {w : World} {base : Nat} {t t' : TypeId} {v : Value} {l : List α} (h : RowF w base t c f v l) {b : Nat} {cs : Array Value} (hb : IsBlk w b cs t') (ht : t ≠ t') : v.ownBlock ≠ some b := by
  intro e
  obtain ⟨cur, hc⟩ := h.tag b e
  unfold IsBlk at hb
  rw [hc] at hb
  injection hb with hb
  injection hb with _ h2
  exact ht h2
theorem DkN.but {N T : Nat → Prop} {B : Nat} {w w' : World} {db : Nat} {d : DK} (h : DkN N B w db d) (hb : But T w w') (hs : ∀ k, T k → N k) : DkN N B w' db d := by
  obtain ⟨fb, mb, cap, cv, h, n1, n2, n3, n4⟩ := h
  exact ⟨fb, mb, cap, cv, h.same hb (fun x => n1 (hs _ x)) (fun x => n2 (hs _ x)) (fun x => n3 (hs _ x)) (fun k hk x => n4 k hk (hs _ x)), n1, n2, n3, n4⟩
theorem DkN.widen {N N' : Nat → Prop} {B : Nat} {w : World} {db : Nat} {d : DK} (h : DkN N B w db d) (hs : ∀ k, N' k → N k ∨ w.heap.size ≤ k) : DkN N' B w db d := by
  obtain ⟨fb, mb, cap, cv, h, n1, n2, n3, n4⟩ := h
  refine ⟨fb, mb, cap, cv, h, fun x => ?_, fun x => ?_, fun x => ?_, fun k hk x => ?_⟩
  · have := h.blk.lt; rcases hs _ x with y | y; exact n1 y; omega
  · have := h.fb_lt; rcases hs _ x with y | y; exact n2 y; omega
  · have := h.map.lt; rcases hs _ x with y | y; exact n3 y; omega
  · have := h.cache.lt k hk; rcases hs _ x with y | y; exact n4 k hk y; omega

/-- A page stored into a block of pages. -/
theorem isBlk_setPage {w : World} {g : Nat} {F : List (List Nat)} {t : TypeId} (h : IsBlk w g (F.flatMap bv).toArray t) (hF : ∀ p ∈ F, p.length = 64) {j : Nat} (hj : j < F.length) {p : List Nat} (hp : p.length = 64) :
    IsBlk (w.setCells g (j * 64) (bv p)) g ((F.set j p).flatMap bv).toArray t := by
  have hb : ∀ q ∈ F, (bv q).length = 64 := fun q hq => by rw [bv_length]; exact hF q hq
  obtain ⟨_, _, h3⟩ := heap_setCells g (bv p) (j * 64) w
  obtain ⟨cur, h4, h5, h6⟩ := h3 _ _ h
  have hsz : (F.flatMap bv).toArray.size = F.length * 64 := by rw [List.size_toArray, flat_length hb]
  have hfs : ∀ q ∈ F.set j p, (bv q).length = 64 := fun q hq => by
    rcases List.mem_or_eq_of_mem_set hq with h0 | rfl
    · exact hb q h0
    · rw [bv_length, hp]
  have e : cur.toList = (F.set j p).flatMap bv := by
    apply flat_ext hfs (by decide) (by rw [Array.length_toList, h5, hsz, List.length_set])
    intro i n y hy hn
    have hil : i < F.length := by
      have := (List.getElem?_eq_some_iff.1 hy).1
      rwa [List.length_set] at this
    have hli : (i + 1) * 64 ≤ F.length * 64 := Nat.mul_le_mul_right 64 hil
    rw [Array.getElem?_toList, h6, hsz, bv_length, hp]
    rw [List.getElem?_set] at hy
    by_cases hij : j = i
    · subst hij
      rw [if_pos rfl, if_pos hj] at hy
      obtain rfl := Option.some.inj hy
      rw [if_pos (by omega), show j * 64 + n - j * 64 = n by omega]
    · rw [if_neg hij] at hy
      rw [if_neg (by omega), List.getElem?_toArray, flat_get hb hy hn]
  show (w.setCells g (j * 64) (bv p)).heap[g]? = _
  rw [h4, ← e]
theorem isBlk_pageAt {w : World} {g : Nat} {F : List (List Nat)} {t : TypeId} (h : IsBlk w g (F.flatMap bv).toArray t) (hF : ∀ p ∈ F, p.length = 64) {j : Nat} {p : List Nat} (hp : F[j]? = some p) :
    w.rangeAt g (j * 64) (bv p) ∧ w.there g (j * 64) 64 := by
  have hb : ∀ q ∈ F, (bv q).length = 64 := fun q hq => by rw [bv_length]; exact hF q hq
  have hpl : (bv p).length = 64 := hb p (List.mem_of_getElem? hp)
  have key : ∀ n, n < 64 → w.cell? ⟨g, j * 64 + n, none⟩ = (bv p)[n]? := fun n hn => by
    have h' : w.heap[g]? = some (.cells (F.flatMap bv).toArray t) := h
    have e : w.cell? ⟨g, j * 64 + n, none⟩ = (F.flatMap bv)[j * 64 + n]? := by unfold World.cell?; rw [h']; simp
    rw [e, flat_get hb hp hn]
  refine ⟨fun n u hu => ?_, fun n hn => ⟨?_, h.fz _⟩⟩
  · have hn : n < 64 := by rw [← hpl]; exact (List.getElem?_eq_some_iff.1 hu).1
    rw [key n hn, hu]
  · rw [key n hn, List.getElem?_eq_getElem (by omega)]; rfl

/-- The two arrays: F what is firm, S j what may be there for j. -/
structure Kp (w : World) (base fb sb : Nat) (F : List (List Nat)) (sv : List Value) (S : Nat → List (List Nat)) : Prop where
  fm : IsBlk w fb (F.flatMap bv).toArray 42
  fl : F.length = 20
  fp : ∀ p ∈ F, p.length = 64
  sm : IsBlk w sb sv.toArray 44
  sl : sv.length = 20
  rows : ∀ j v, sv[j]? = some v → RowF w base 33 64 pgF v (S j)
  apart : ∀ (i j : Nat) (vi vj : Value) (k : Nat), sv[i]? = some vi → sv[j]? = some vj → vi.ownBlock = some k → vj.ownBlock = some k → i = j
  bf : base ≤ fb
  bs : base ≤ sb
/-- Their blocks. -/
def KN (fb sb : Nat) (sv : List Value) (k : Nat) : Prop := k = fb ∨ k = sb ∨ ∃ v ∈ sv, v.ownBlock = some k
section
variable {w w' : World} {base fb sb : Nat} {F : List (List Nat)} {sv : List Value} {S : Nat → List (List Nat)}
theorem Kp.ne (h : Kp w base fb sb F sv S) : fb ≠ sb := by
  intro e
  have h1 := h.fm
  have h2 := h.sm
  unfold IsBlk at h1 h2
  rw [e, h2] at h1
  injection h1 with h1
  injection h1 with _ h3
  exact absurd h3 (by decide)
theorem Kp.row_ne (h : Kp w base fb sb F sv S) {v : Value} (hv : v ∈ sv) : v.ownBlock ≠ some fb ∧ v.ownBlock ≠ some sb := by
  obtain ⟨j, hj, rfl⟩ := List.mem_iff_getElem.1 hv
  have hr := h.rows j _ (List.getElem?_eq_getElem hj)
  exact ⟨hr.ne_blk h.fm (by decide), hr.ne_blk h.sm (by decide)⟩
theorem Kp.nlt (h : Kp w base fb sb F sv S) : ∀ k, KN fb sb sv k → k < w.heap.size := by
  rintro k (rfl | rfl | ⟨v, hv, hk⟩)
  · exact h.fm.lt
  · exact h.sm.lt
  · obtain ⟨j, hj, rfl⟩ := List.mem_iff_getElem.1 hv
    exact (h.rows j _ (List.getElem?_eq_getElem hj)).lt k hk
theorem Kp.nbase (h : Kp w base fb sb F sv S) : ∀ k, KN fb sb sv k → base ≤ k := by
  rintro k (rfl | rfl | ⟨v, hv, hk⟩)
  · exact h.bf
  · exact h.bs
  · obtain ⟨j, hj, rfl⟩ := List.mem_iff_getElem.1 hv
    exact (h.rows j _ (List.getElem?_eq_getElem hj)).base_le k hk
theorem Kp.but (h : Kp w base fb sb F sv S) {T : Nat → Prop} (hb : But T w w') (hs : ∀ k, KN fb sb sv k → ¬ T k) : Kp w' base fb sb F sv S :=
  ⟨hb.blk h.fm (hs _ (.inl rfl)), h.fl, h.fp, hb.blk h.sm (hs _ (.inr (.inl rfl))), h.sl,
    fun j v hv => (h.rows j v hv).but hb (fun k hk => hs k (.inr (.inr ⟨v, List.mem_of_getElem? hv, hk⟩))), h.apart, h.bf, h.bs⟩
theorem Kp.below (h : Kp w base fb sb F sv S) (hb : Below w.heap.size w w') : Kp w' base fb sb F sv S :=
  h.but (T := fun _ => False) (But.of_below hb (Nat.le_refl _)) (fun _ _ x => x)
theorem Kp.congr (h : Kp w base fb sb F sv S) {S' : Nat → List (List Nat)} (hs : ∀ j, j < 20 → S' j = S j) : Kp w base fb sb F sv S' :=
  ⟨h.fm, h.fl, h.fp, h.sm, h.sl, fun j v hv => by rw [hs j (by rw [← h.sl]; exact (List.getElem?_eq_some_iff.1 hv).1)]; exact h.rows j v hv, h.apart, h.bf, h.bs⟩
theorem Kp.firmAt (h : Kp w base fb sb F sv S) {j : Nat} (hj : j < 20) : w.rangeAt fb (j * 64) (bv (F.getD j zeroPg)) ∧ w.there fb (j * 64) 64 ∧ (F.getD j zeroPg).length = 64 := by
  have hl : j < F.length := by rw [h.fl]; exact hj
  have e : F[j]? = some (F.getD j zeroPg) := by simp [List.getD, List.getElem?_eq_getElem hl]
  have h1 := isBlk_pageAt h.fm h.fp e
  exact ⟨h1.1, h1.2, h.fp _ (List.mem_of_getElem? e)⟩
theorem Kp.someAt (h : Kp w base fb sb F sv S) {j : Nat} (hj : j < 20) : ∃ v, sv[j]? = some v ∧ w.cell? ⟨sb, j, none⟩ = some v ∧ w.frozen? ⟨sb, j, none⟩ = false ∧ RowF w base 33 64 pgF v (S j) := by
  have hl : j < sv.length := by rw [h.sl]; exact hj
  exact ⟨sv[j], List.getElem?_eq_getElem hl, h.sm.cell j (by rw [List.getElem?_toArray]; exact List.getElem?_eq_getElem hl), h.sm.fz j, h.rows j _ (List.getElem?_eq_getElem hl)⟩
/-- A page made firm. -/
theorem Kp.put (h : Kp w base fb sb F sv S) {j : Nat} (hj : j < 20) {p : List Nat} (hp : p.length = 64) : Kp (w.setCells fb (j * 64) (bv p)) base fb sb (F.set j p) sv S ∧ But (fun k => k = fb) w (w.setCells fb (j * 64) (bv p)) := by
  have hb : But (fun k => k = fb) w (w.setCells fb (j * 64) (bv p)) := (But.refl (fun k => k = fb) w).setCells (g := fb) rfl _ _
  refine ⟨⟨isBlk_setPage h.fm h.fp (by rw [h.fl]; exact hj) hp, by rw [List.length_set]; exact h.fl, fun q hq => ?_, hb.blk h.sm (fun e => h.ne e.symm), h.sl,
    fun i v hv => (h.rows i v hv).but hb (fun k hk e => (h.row_ne (List.mem_of_getElem? hv)).1 (e ▸ hk)), h.apart, h.bf, h.bs⟩, hb⟩
  rcases List.mem_or_eq_of_mem_set hq with h0 | rfl
  · exact h.fp q h0
  · exact hp
/-- One row turned, and laid down. -/
theorem Kp.turn (h : Kp w base fb sb F sv S) {k : Nat} {v v' : Value} {l : List (List Nat)} (hv : sv[k]? = some v) (hb : But (fun b => v.ownBlock = some b) w w') (hr : RowF w' base 33 64 pgF v' l)
    (ho : ∀ n, v'.ownBlock = some n → v.ownBlock = some n ∨ w.heap.size ≤ n) :
    Kp (w'.setCell ⟨sb, k, none⟩ v') base fb sb F (sv.set k v') (fun j => if j = k then l else S j) ∧ But (KN fb sb sv) w (w'.setCell ⟨sb, k, none⟩ v') ∧ (∀ n, KN fb sb (sv.set k v') n → KN fb sb sv n ∨ w.heap.size ≤ n) := by
  have hvm := List.mem_of_getElem? hv
  have hkl : k < sv.length := (List.getElem?_eq_some_iff.1 hv).1
  have hne := h.row_ne hvm
  have hsm : IsBlk w' sb sv.toArray 44 := hb.blk h.sm hne.2
  have hfm := hb.blk h.fm hne.1
  have hv' : v'.ownBlock ≠ some sb := hr.ne_blk hsm (by decide)
  have hss : But (fun b => b = sb) w' (w'.setCell ⟨sb, k, none⟩ v') := (But.refl (fun b => b = sb) w').setCell (p := ⟨sb, k, none⟩) rfl _
  refine ⟨⟨hss.blk hfm h.ne, h.fl, h.fp, ?_, by rw [List.length_set]; exact h.sl, fun j u hu => ?_, fun i j vi vj n hi hj hni hnj => ?_, h.bf, h.bs⟩, (hb.mono (fun b hb => .inr (.inr ⟨v, hvm, hb⟩))).trans (hss.mono (fun b hb => .inr (.inl hb))), ?_⟩
  · have := hsm.set k v'
    have e : sv.toArray.setIfInBounds k v' = (sv.set k v').toArray := by simp
    rw [e] at this
    exact this
  · rw [List.getElem?_set] at hu
    by_cases hjk : k = j
    · subst hjk
      rw [if_pos rfl, if_pos hkl] at hu
      obtain rfl := Option.some.inj hu
      simp only [if_true]
      exact hr.but hss (fun n hn e => hv' (e ▸ hn))
    · rw [if_neg hjk] at hu
      have hnj : j ≠ k := fun e => hjk e.symm
      simp only [hnj, if_false]
      have h1 := (h.rows j u hu).but hb (fun n hn e => hnj (h.apart j k u v n hu hv hn e))
      exact h1.but hss (fun n hn e => (h.row_ne (List.mem_of_getElem? hu)).2 (e ▸ hn))
  · rw [List.getElem?_set] at hi hj
    by_cases hki : k = i
    · by_cases hkj : k = j
      · omega
      · subst hki
        rw [if_pos rfl, if_pos hkl] at hi
        obtain rfl := Option.some.inj hi
        rw [if_neg hkj] at hj
        rcases ho n hni with h1 | h1
        · exact absurd (h.apart k j v vj n hv hj h1 hnj) hkj
        · have := (h.rows j vj hj).lt n hnj; omega
    · rw [if_neg hki] at hi
      by_cases hkj : k = j
      · subst hkj
        rw [if_pos rfl, if_pos hkl] at hj
        obtain rfl := Option.some.inj hj
        rcases ho n hnj with h1 | h1
        · exact h.apart i k vi v n hi hv hni h1
        · have := (h.rows i vi hi).lt n hni; omega
      · rw [if_neg hkj] at hj
        exact h.apart i j vi vj n hi hj hni hnj
  · rintro n (rfl | rfl | ⟨u, hu, hn⟩)
    · exact .inl (.inl rfl)
    · exact .inl (.inr (.inl rfl))
    · rcases List.mem_or_eq_of_mem_set hu with h0 | rfl
      · exact .inl (.inr (.inr ⟨u, h0, hn⟩))
      · rcases ho n hn with h1 | h1
        · exact .inl (.inr (.inr ⟨v, hvm, h1⟩))
        · exact .inr h1
end
/-- The arrays as they are made. -/
theorem flat_zeros (n : Nat) : (List.replicate n zeroPg).flatMap bv = List.replicate (n * 64) (.int .u8 0) := by
  induction n with
  | zero => rfl
  | succ n ih =>
    rw [List.replicate_succ, List.flatMap_cons, ih, show bv zeroPg = List.replicate 64 (Value.int .u8 0) from rfl, List.replicate_append_replicate]
    congr 1
    omega
theorem Kp.made {w3 : World} {fb base : Nat} (hf : IsBlk w3 fb (List.replicate 1280 (Value.int .u8 0)).toArray 42) (h1 : base ≤ fb) (h2 : base ≤ w3.heap.size) :
    Kp (w3.alloc (.cells (List.replicate 20 (Value.slice none 0 0)).toArray 44)) base fb w3.heap.size (List.replicate 20 zeroPg) (List.replicate 20 (.slice none 0 0)) (fun _ => []) := by
  have hn : ∀ v ∈ List.replicate 20 (Value.slice none 0 0), v = .slice none 0 0 := fun v hv => List.eq_of_mem_replicate hv
  refine ⟨?_, by simp, fun p hp => by rw [List.eq_of_mem_replicate hp]; rfl, IsBlk.new w3 _ _, by simp, fun j v hv => ?_, fun i j vi vj k hi hj hk hk2 => ?_, h1, h2⟩
  · rw [flat_zeros]
    exact hf.alloc _
  · rw [hn v (List.mem_of_getElem? hv)]
    exact RowF.nil _ _ _ _ _
  · rw [hn vi (List.mem_of_getElem? hi)] at hk
    cases hk
end Go.Proofs.YtjmjfgbpjecgfaaDoor
