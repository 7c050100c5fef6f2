/-
  ring: what was added is found, in plain lists.
-/
import Derived.Test.YtkabkehfckbhcaaDoorZRgRecP
namespace Go.Proofs.YtkabkehfckbhcaaDoor
set_option linter.unusedVariables false
set_option linter.unusedSimpArgs false

theorem onB_get {n k : Nat} {d : DK} (h : OnB n k d) {i : Nat} (hi : i < n) : d.read (i : Int) = d.cur.getD i zeroPg := by
  have he := (onB_read h hi).1
  unfold DK.read
  rw [if_pos he]
  rfl
theorem read_write {n k : Nat} {d : DK} (h : OnB n k d) {i j : Nat} (hi : i < n) (hj : j < n) (p : List Nat) (hp : p.length = 64) (hb : ∀ c ∈ p, c < 256) : (d.write (i : Int) p).read (j : Int) = if i = j then p else d.read (j : Int) := by
  have h2 := onB_written h i hi p hp hb
  rw [onB_get h2 hj, onB_get h hj, (onB_write h i hi p).1]
  show (applyP d.firm (d.pend ++ [(i, p)])).getD j zeroPg = _
  rw [applyP_snoc]
  exact getD_set _ _ _ _ (by rw [applyP_length, h.len]; exact hi)
theorem mod_ne {a e n : Nat} (h1 : 0 < e) (h2 : e < n) : (a + e) % n ≠ a % n := by
  intro h
  have h3 := Nat.sub_mod_eq_zero_of_mod_eq h
  rw [Nat.add_sub_cancel_left, Nat.mod_eq_of_lt h2] at h3
  omega
theorem putAll_other {s : RS} {n : Nat} (hs : RSok s n) {j : Nat} (hj : j < n) : ∀ (L : List (List Nat)) (i k : Nat) (d : DK), OnB n k d → (∀ p ∈ L, p.length = 64 ∧ ∀ c ∈ p, c < 256) → (∀ t, t < L.length → s.first + (s.place + (i + t)) % s.n ≠ j) → (putAll s L i d).read (j : Int) = d.read (j : Int) := by
  intro L
  induction L with
  | nil => intro i k d _ _ _; rfl
  | cons p r ih =>
    intro i k d h hL hn
    have hlt : s.first + (s.place + i) % s.n < n := by
      have := Nat.mod_lt (s.place + i) (show 0 < s.n by have := hs.n1; omega)
      have := hs.fit
      omega
    have h1 := onB_written h _ hlt p (hL p (by simp)).1 (hL p (by simp)).2
    rw [putAll, ih (i + 1) (k + 1) _ h1 (fun q hq => hL q (by simp [hq])) (fun t ht => by
      have := hn (t + 1) (by simp; omega)
      rwa [show i + (t + 1) = i + 1 + t by omega] at this), read_write h hlt hj p (hL p (by simp)).1 (hL p (by simp)).2, if_neg]
    have := hn 0 (by simp)
    rwa [Nat.add_zero] at this
theorem putAll_at {s : RS} {n : Nat} (hs : RSok s n) : ∀ (L : List (List Nat)) (i k : Nat) (d : DK), OnB n k d → (∀ p ∈ L, p.length = 64 ∧ ∀ c ∈ p, c < 256) → L.length ≤ s.n → ∀ (t : Nat) (q : List Nat), L[t]? = some q → (putAll s L i d).read ((s.first + (s.place + (i + t)) % s.n : Nat) : Int) = q := by
  intro L
  induction L with
  | nil => intro i k d _ _ _ t q h; simp at h
  | cons p r ih =>
    intro i k d h hL hln t q ht
    have hlt : ∀ x, s.first + x % s.n < n := fun x => by
      have := Nat.mod_lt x (show 0 < s.n by have := hs.n1; omega)
      have := hs.fit
      omega
    have h1 := onB_written h _ (hlt (s.place + i)) p (hL p (by simp)).1 (hL p (by simp)).2
    rw [List.length_cons] at hln
    rcases t with _ | t
    · simp at ht
      subst ht
      rw [Nat.add_zero, putAll, putAll_other hs (hlt _) r (i + 1) (k + 1) _ h1 (fun q hq => hL q (by simp [hq])) (fun t ht e => by
        have h2 := mod_ne (a := s.place + i) (e := 1 + t) (n := s.n) (by omega) (by omega)
        rw [show s.place + i + (1 + t) = s.place + (i + 1 + t) by omega] at h2
        omega), read_write h (hlt _) (hlt _) p (hL p (by simp)).1 (hL p (by simp)).2, if_pos rfl]
    · rw [putAll, show i + (t + 1) = i + 1 + t by omega]
      exact ih (i + 1) (k + 1) _ h1 (fun q hq => hL q (by simp [hq])) (by omega) t q (by simpa using ht)
theorem sector_put {s : RS} {n k : Nat} {d : DK} (hs : RSok s n) (h : OnB n k d) {L : List (List Nat)} (hL : ∀ p ∈ L, p.length = 64 ∧ ∀ c ∈ p, c < 256) (hn : L.length ≤ s.n) {t : Nat} {q : List Nat} (ht : L[t]? = some q) : s.sector (putAll s L 0 d) t = q := by
  have := putAll_at hs L 0 k d h hL hn t q ht
  rwa [Nat.zero_add] at this
/-- A change as it is found. -/
def norm (c : CH) : CH := (c.1 % 4294967296, c.2)
theorem headPg_eq (last : List Nat) (num : Nat) (l : List CH) : headPg last num l = 84 :: (leB 8 num ++ (l.length % 256 :: (recSum last num l ++ List.replicate (64 - (headB num l.length ++ recSum last num l).length) 0))) := by
  unfold headPg padPg
  have h1 := headB_length num l.length
  have h2 : (leB 8 num).length = 8 := leB_length 8 num
  conv => lhs; unfold headB
  simp
  omega
theorem recSum_length (last : List Nat) (num : Nat) (l : List CH) : (recSum last num l).length = 32 := digest_length _
theorem head_0 (last : List Nat) (num : Nat) (l : List CH) : (headPg last num l).getD 0 0 = 84 := by rw [headPg_eq]; rfl
theorem head_num (last : List Nat) (num : Nat) (l : List CH) : ((headPg last num l).drop 1).take 8 = leB 8 num := by
  rw [headPg_eq, List.drop_succ_cons, List.drop_zero]
  have h : (leB 8 num).length = 8 := leB_length 8 num
  rw [List.take_append_of_le_length (by omega), List.take_of_length_le (by omega)]
theorem head_9 (last : List Nat) (num : Nat) (l : List CH) : (headPg last num l).getD 9 0 = l.length % 256 := by
  have h : (leB 8 num).length = 8 := leB_length 8 num
  rw [headPg_eq]
  unfold List.getD
  rw [List.getElem?_cons_succ, List.getElem?_append_right (by omega), h]
  rfl
theorem head_take (last : List Nat) (num : Nat) (l : List CH) : (headPg last num l).take 10 = headB num l.length := by
  have h : (headB num l.length).length = 10 := headB_length _ _
  unfold headPg padPg
  rw [List.append_assoc, List.take_append_of_le_length (by omega), List.take_of_length_le (by omega)]
theorem head_sum (last : List Nat) (num : Nat) (l : List CH) : ((headPg last num l).drop 10).take 32 = recSum last num l := by
  have h : (headB num l.length).length = 10 := headB_length _ _
  have h2 := recSum_length last num l
  unfold headPg padPg
  rw [List.append_assoc, List.drop_append, h, List.drop_eq_nil_of_le (by omega), List.nil_append, Nat.sub_self, List.drop_zero, List.take_append_of_le_length (by omega), List.take_of_length_le (by omega)]
theorem leN_num (num : Nat) (h : num < 18446744073709551616) : leN (leB 8 num) = num := by
  rw [leN_leB]
  exact Nat.mod_eq_of_lt h
theorem leN_at (z : Int) : ((leN (atB z) : Nat) : Int) = z % 4294967296 := by
  unfold atB
  rw [leN_leB]
  have h : (z % 4294967296).toNat % 256 ^ 4 = (z % 4294967296).toNat := Nat.mod_eq_of_lt (by show _ < 4294967296; omega)
  rw [h]
  omega
theorem atBs_get {l : List CH} {k : Nat} {c : CH} (h : l[k]? = some c) {j : Nat} (hj : j < 4) : (l.flatMap fun c => atB c.1)[4 * k + j]? = (atB c.1)[j]? := by
  induction l generalizing k with
  | nil => simp at h
  | cons x r ih =>
    rw [List.flatMap_cons]
    have hl : (atB x.1).length = 4 := atB_length _
    rcases k with _ | k
    · simp at h
      subst h
      rw [Nat.mul_zero, Nat.zero_add, List.getElem?_append_left (by omega)]
    · rw [List.getElem?_append_right (by omega), hl, show 4 * (k + 1) + j - 4 = 4 * k + j by omega]
      exact ih (by simpa using h)
theorem idx_at {l : List CH} {q j : Nat} {c : CH} (h : l[16 * q + j]? = some c) (hj : j < 16) : ((idxPg l q).drop (4 * j)).take 4 = atB c.1 := by
  have hlt : 16 * q + j < l.length := (List.getElem?_eq_some_iff.1 h).1
  have hg : ((l.drop (16 * q)).take 16)[j]? = some c := by rw [List.getElem?_take, if_pos hj, List.getElem?_drop, h]
  have hl : (atB c.1).length = 4 := atB_length _
  apply List.ext_getElem?
  intro i
  rw [List.getElem?_take, List.getElem?_drop]
  by_cases hi : i < 4
  · rw [if_pos hi]
    unfold idxPg
    rw [padPg_get, idx_length, if_pos (by rw [List.length_take, List.length_drop]; omega), atBs_get hg hi]
  · rw [if_neg hi, List.getElem?_eq_none (by omega)]
theorem body_idx {l : List CH} {q : Nat} (h : q < (l.length + 15) / 16) : (bodyPgs l)[q]? = some (idxPg l q) := by
  unfold bodyPgs
  rw [List.getElem?_append_left (by simpa using h), List.getElem?_map, List.getElem?_range h]
  rfl
theorem body_what {l : List CH} {k : Nat} {c : CH} (h : l[k]? = some c) : (bodyPgs l)[(l.length + 15) / 16 + k]? = some c.2 := by
  unfold bodyPgs
  rw [List.getElem?_append_right (by simp), List.length_map, List.length_range, Nat.add_sub_cancel_left, List.getElem?_map, h]
  rfl
/-- What was added is found. -/
theorem look_add {s : RS} {n k : Nat} {d : DK} {l : List CH} (hs : RSok s n) (h : OnB n k d) (hl : ∀ c ∈ l, CHok c) (h1 : 1 ≤ l.length) (h60 : l.length ≤ 60) (hf : takes l.length ≤ s.n - s.used) :
    s.look (putAll s (recPgs s.last s.num l) 0 d) = (l.map norm, recSum s.last s.num l) := by
  have hpg := recPgs_ok (last := s.last) (num := s.num) hl
  have hlen := recPgs_length s.last s.num l
  have hsec : ∀ (t : Nat) (q : List Nat), (recPgs s.last s.num l)[t]? = some q → s.sector (putAll s (recPgs s.last s.num l) 0 d) t = q := fun t q ht => sector_put hs h hpg (by rw [hlen]; omega) ht
  generalize putAll s (recPgs s.last s.num l) 0 d = d' at hsec ⊢
  have h0 : headPg s.last s.num l = s.sector d' 0 := (hsec 0 _ rfl).symm
  have hb : ∀ (t : Nat) (q : List Nat), (bodyPgs l)[t]? = some q → s.sector d' (t + 1) = q := fun t q ht => hsec (t + 1) q (by unfold recPgs; rw [List.getElem?_cons_succ]; exact ht)
  have hk : l.length = (headPg s.last s.num l).getD 9 0 := by rw [head_9]; exact (Nat.mod_eq_of_lt (by omega)).symm
  have hT : recT s d' (headPg s.last s.num l) (takes l.length - 1) = sumIn s.last s.num l := by
    unfold recT sumIn
    rw [head_take]
    congr 2
    apply List.ext_getElem?
    intro i
    have hbl := bodyPgs_length l
    by_cases hi : i < takes l.length - 1
    · rw [List.getElem?_map, List.getElem?_range hi]
      have hib : i < (bodyPgs l).length := by omega
      rw [Option.map_some, hb i _ (List.getElem?_eq_getElem hib), List.getElem?_eq_getElem hib]
    · rw [List.getElem?_eq_none (by simp; omega), List.getElem?_eq_none (by omega)]
  rw [look_of h0 hk rfl ⟨head_0 _ _ _, by rw [head_num, leN_num _ hs.num], h1, h60, hf⟩, hT, head_sum]
  rw [if_pos (show digest (sumIn s.last s.num l) = recSum s.last s.num l from rfl)]
  refine Prod.ext ?_ rfl
  show (List.range l.length).map (chAt s d' l.length) = l.map norm
  apply List.ext_getElem?
  intro i
  by_cases hi : i < l.length
  · obtain ⟨c, hc⟩ : ∃ c, l[i]? = some c := ⟨_, List.getElem?_eq_getElem hi⟩
    rw [List.getElem?_map, List.getElem?_range hi, List.getElem?_map, hc, Option.map_some, Option.map_some]
    congr 1
    have e1 := hb (i / 16) _ (body_idx (l := l) (by omega))
    have e2 := hb _ _ (body_what hc)
    unfold chAt norm
    rw [Nat.add_comm 1 (i / 16), e1, show 1 + (l.length + 15) / 16 + i = (l.length + 15) / 16 + i + 1 by omega, e2, idx_at (c := c) (by rw [show 16 * (i / 16) + i % 16 = i by omega]; exact hc) (Nat.mod_lt _ (by decide)), leN_at]
  · rw [List.getElem?_eq_none (by simp; omega), List.getElem?_eq_none (by simp; omega)]
/-- What is found hangs on its sectors alone. -/
theorem look_congr {s : RS} {d d' : DK} (h : (s.look d).1 ≠ []) (hsec : ∀ i, i < takes (s.look d).1.length → s.sector d' i = s.sector d i) : s.look d' = s.look d := by
  have hcond : (s.sector d 0).getD 0 0 = 84 ∧ leN (((s.sector d 0).drop 1).take 8) = s.num ∧ 1 ≤ (s.sector d 0).getD 9 0 ∧ (s.sector d 0).getD 9 0 ≤ 60 ∧ takes ((s.sector d 0).getD 9 0) ≤ s.n - s.used := by
    apply Classical.byContradiction
    intro hc
    exact h (look_no rfl rfl rfl hc)
  have hlk := look_of (s := s) (d := d) rfl rfl rfl hcond
  have hlen : (s.look d).1.length = (s.sector d 0).getD 9 0 := by
    rw [hlk] at h ⊢
    split
    · simp
    · rename_i e; rw [if_neg e] at h; exact absurd rfl h
  rw [hlen] at hsec
  have h0 : s.sector d' 0 = s.sector d 0 := hsec 0 (by unfold takes; omega)
  rw [hlk, look_of (d := d') (p := s.sector d 0) h0.symm rfl rfl hcond]
  have hT : recT s d' (s.sector d 0) (takes ((s.sector d 0).getD 9 0) - 1) = recT s d (s.sector d 0) (takes ((s.sector d 0).getD 9 0) - 1) := by
    unfold recT
    congr 2
    apply List.map_congr_left
    intro i hi
    have := List.mem_range.1 hi
    exact hsec (i + 1) (by omega)
  have hC : (List.range ((s.sector d 0).getD 9 0)).map (chAt s d' ((s.sector d 0).getD 9 0)) = (List.range ((s.sector d 0).getD 9 0)).map (chAt s d ((s.sector d 0).getD 9 0)) := by
    apply List.map_congr_left
    intro i hi
    have := List.mem_range.1 hi
    unfold chAt
    rw [hsec (1 + i / 16) (by unfold takes; omega), hsec (1 + ((s.sector d 0).getD 9 0 + 15) / 16 + i) (by unfold takes; omega)]
  rw [hT, hC]
/-- Records, one behind the other. -/
inductive Chain (d : DK) : RS → List (List CH) → RS → Prop
  | nil (s : RS) : Chain d s [] s
  | cons {s : RS} {l : List CH} {L : List (List CH)} {e : RS} (h : l ≠ []) (h1 : (s.look d).1 = l) (h2 : Chain d (s.behind l.length (s.look d).2) L e) : Chain d s (l :: L) e
theorem takes_pos (k : Nat) : 1 ≤ takes k := by unfold takes; omega
theorem Chain.pos {d : DK} {s e : RS} {L : List (List CH)} (h : Chain d s L e) : s.used ≤ e.used ∧ e.first = s.first ∧ e.n = s.n ∧ (s.place < s.n → e.place = (s.place + (e.used - s.used)) % s.n) := by
  induction h with
  | nil s => exact ⟨Nat.le_refl _, rfl, rfl, fun h => by rw [Nat.sub_self, Nat.add_zero, Nat.mod_eq_of_lt h]⟩
  | @cons s l L e hne h1 h2 ih =>
    obtain ⟨i1, i2, i3, i4⟩ := ih
    have e1 : (s.behind l.length (s.look d).2).used = s.used + takes l.length := rfl
    have e2 : (s.behind l.length (s.look d).2).n = s.n := rfl
    have e3 : (s.behind l.length (s.look d).2).place = (s.place + takes l.length) % s.n := rfl
    refine ⟨by omega, i2, i3, fun h => ?_⟩
    rw [e1, e2, e3] at i4
    rw [i4 (Nat.mod_lt _ (by omega)), Nat.mod_add_mod]
    congr 1
    omega
theorem openP_chain {d : DK} : ∀ {L : List (List CH)} {s e : RS} {f : Nat}, Chain d s L e → (e.look d).1 = [] → L.length < f → openP d f s = (e, L) := by
  intro L
  induction L with
  | nil =>
    intro s e f h he hf
    cases h
    obtain ⟨f, rfl⟩ : ∃ g, f = g + 1 := ⟨f - 1, by omega⟩
    unfold openP
    simp only
    rw [if_pos he]
  | cons l L ih =>
    intro s e f h he hf
    cases h with
    | cons hne h1 h2 =>
      obtain ⟨f, rfl⟩ : ∃ g, f = g + 1 := ⟨f - 1, by omega⟩
      have hi := ih h2 he (by simp at hf; omega)
      unfold openP
      simp only
      rw [if_neg (by rw [h1]; exact hne), h1, hi]
theorem Chain.snoc {d : DK} {s e : RS} {L : List (List CH)} (h : Chain d s L e) {l : List CH} (hne : l ≠ []) (h1 : (e.look d).1 = l) : Chain d s (L ++ [l]) (e.behind l.length (e.look d).2) := by
  induction h with
  | nil s => exact Chain.cons hne h1 (Chain.nil _)
  | cons hn h2 h3 ih => exact Chain.cons hn h2 (ih h1)
/-- Records stay where nothing of theirs is written. -/
theorem Chain.keep {d d' : DK} {s e : RS} {L : List (List CH)} (h : Chain d s L e) (hn : 0 < s.n) (hk : ∀ i, i < e.used - s.used → d'.read ((s.first + (s.place + i) % s.n : Nat) : Int) = d.read ((s.first + (s.place + i) % s.n : Nat) : Int)) : Chain d' s L e := by
  induction h with
  | nil s => exact Chain.nil s
  | @cons s l L e hne h1 h2 ih =>
    have hp := h2.pos.1
    have e1 : (s.behind l.length (s.look d).2).used = s.used + takes l.length := rfl
    have hlk : s.look d' = s.look d := look_congr (by rw [h1]; exact hne) (fun i hi => by
      rw [h1] at hi
      exact hk i (by omega))
    refine Chain.cons hne (by rw [hlk, h1]) ?_
    rw [hlk]
    refine ih hn (fun i hi => ?_)
    have e3 : (s.behind l.length (s.look d).2).place = (s.place + takes l.length) % s.n := rfl
    have e2 : (s.behind l.length (s.look d).2).n = s.n := rfl
    have e4 : (s.behind l.length (s.look d).2).first = s.first := rfl
    rw [e2, e3, e4, Nat.mod_add_mod, Nat.add_assoc]
    exact hk (takes l.length + i) (by omega)
theorem Chain.len {d : DK} {s e : RS} {L : List (List CH)} (h : Chain d s L e) : L.length ≤ e.used - s.used := by
  induction h with
  | nil s => exact Nat.zero_le _
  | @cons s l L e hne h1 h2 ih =>
    have hp := h2.pos.1
    have e1 : (s.behind l.length (s.look d).2).used = s.used + takes l.length := rfl
    have := takes_pos l.length
    rw [List.length_cons]
    omega
/-- A sector that looks like a record of number N's first one. -/
def IsHead (p : List Nat) (N : Nat) : Prop := p.getD 0 0 = 84 ∧ leN ((p.drop 1).take 8) = N ∧ 1 ≤ p.getD 9 0
theorem look_nohead {s : RS} {d : DK} (h : ¬ IsHead (s.sector d 0) s.num) : (s.look d).1 = [] := look_no rfl rfl rfl (fun e => h ⟨e.1, e.2.1, e.2.2.1⟩)
theorem head_not {last : List Nat} {num : Nat} {l : List CH} (hn : num < 18446744073709551616) {N : Nat} (hN : N ≠ num) : ¬ IsHead (headPg last num l) N := fun h => hN (by rw [← h.2.1, head_num, leN_num _ hn])
theorem zero_not (N : Nat) : ¬ IsHead zeroPg N := fun h => by have := h.1; simp [zeroPg] at this
end Go.Proofs.YtkabkehfckbhcaaDoor
