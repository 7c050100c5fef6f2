/-
  ring: the laws' plain part: records go around; one stands behind a flush.
-/
import Derived.Test.YtkabkehfckbhcaaDoorZRgSeek
namespace Go.Proofs.YtkabkehfckbhcaaDoor
set_option linter.unusedVariables false
set_option linter.unusedSimpArgs false

def pg3 (a b c : Nat) : List Nat := a :: b :: c :: List.replicate 61 0
theorem pg3_length (a b c : Nat) : (pg3 a b c).length = 64 := by simp [pg3]
/-- The changes that the laws make. -/
def chg (n : Nat) (x : Int) : List CH := (List.range n).map fun (i : Nat) => (x % 16777216 + 3 * (i : Int), pg3 (x % 256).toNat i n)
theorem chg_length (n : Nat) (x : Int) : (chg n x).length = n := by simp [chg]
theorem chg_get {n i : Nat} (x : Int) (h : i < n) : (chg n x)[i]? = some (x % 16777216 + 3 * (i : Int), pg3 (x % 256).toNat i n) := by simp [chg, h]
theorem chg_mem {n : Nat} {x : Int} {c : CH} (h : c ∈ chg n x) : ∃ i, i < n ∧ c = (x % 16777216 + 3 * (i : Int), pg3 (x % 256).toNat i n) := by
  obtain ⟨i, hi, rfl⟩ := List.mem_map.1 h
  exact ⟨i, List.mem_range.1 hi, rfl⟩
theorem chg_ok {n : Nat} (hn : n < 256) (x : Int) : ∀ c ∈ chg n x, CHok c := by
  intro c hc
  obtain ⟨i, hi, rfl⟩ := chg_mem hc
  refine ⟨pg3_length _ _ _, fun y hy => ?_, by show _ ≤ x % 16777216 + 3 * (i : Int); omega, by show x % 16777216 + 3 * (i : Int) ≤ _; omega⟩
  simp only [pg3, List.mem_cons, List.mem_replicate] at hy
  rcases hy with rfl | rfl | rfl | ⟨_, rfl⟩
  · omega
  · omega
  · exact hn
  · decide
theorem chg_norm {n : Nat} (hn : n < 256) (x : Int) : (chg n x).map norm = chg n x := by
  conv => rhs; rw [← List.map_id (chg n x)]
  apply List.map_congr_left
  intro c hc
  obtain ⟨i, hi, rfl⟩ := chg_mem hc
  show ((x % 16777216 + 3 * (i : Int)) % 4294967296, pg3 (x % 256).toNat i n) = _
  rw [Int.emod_eq_of_lt (by omega) (by omega)]
  rfl
theorem leN_ge : ∀ (l : List Nat) (i : Nat), l.getD i 0 * 256 ^ i ≤ leN l
  | [], i => by simp
  | c :: r, 0 => by simp [leN]
  | c :: r, i + 1 => by
    have := leN_ge r i
    rw [leN, List.getD_cons_succ, Nat.pow_succ, ← Nat.mul_assoc]
    omega
theorem getD_of {l : List Nat} {i v : Nat} (h : l[i]? = some v) : l.getD i 0 = v := by simp [List.getD, h]
theorem atB_0 (z : Int) : (atB z)[0]? = some ((z % 4294967296).toNat % 256) := by simp [atB, leB]
theorem idx_nohead {n : Nat} {x : Int} {q N : Nat} (hn : n < 256) (hq : 16 * q < n) (hN : N ≤ 1000) : ¬ IsHead (idxPg (chg n x) q) N := by
  rintro ⟨h0, hl, h9⟩
  have hg : ∀ j, 16 * q + j < n → j < 16 → (((chg n x).drop (16 * q)).take 16)[j]? = some (x % 16777216 + 3 * ((16 * q + j : Nat) : Int), pg3 (x % 256).toNat (16 * q + j) n) := fun j h1 h2 => by
    rw [List.getElem?_take, if_pos h2, List.getElem?_drop, chg_get x h1]
  have hlen : (((chg n x).drop (16 * q)).take 16).length = min 16 (n - 16 * q) := by rw [List.length_take, List.length_drop, chg_length]
  have hpg : ∀ i, (idxPg (chg n x) q)[i]? = if i < 4 * min 16 (n - 16 * q) then (((((chg n x).drop (16 * q)).take 16).flatMap fun c => atB c.1))[i]? else if i < 64 then some 0 else none := fun i => by
    unfold idxPg
    rw [padPg_get, idx_length, hlen]
  have e0 : (idxPg (chg n x) q)[0]? = some (((x % 16777216 + 3 * ((16 * q : Nat) : Int)) % 4294967296).toNat % 256) := by
    rw [hpg, if_pos (by omega)]
    have := atBs_get (hg 0 (by omega) (by omega)) (j := 0) (by decide)
    rw [Nat.mul_zero, Nat.add_zero] at this
    rw [this]
    exact atB_0 _
  rw [getD_of e0] at h0
  by_cases h2 : 16 * q + 1 < n
  · have e4 : (idxPg (chg n x) q)[4]? = some (((x % 16777216 + 3 * ((16 * q + 1 : Nat) : Int)) % 4294967296).toNat % 256) := by
      rw [hpg, if_pos (by omega)]
      have := atBs_get (hg 1 h2 (by omega)) (j := 0) (by decide)
      rw [Nat.mul_one, Nat.add_zero] at this
      rw [this]
      exact atB_0 _
    have e5 : (((idxPg (chg n x) q).drop 1).take 8).getD 3 0 = ((x % 16777216 + 3 * ((16 * q + 1 : Nat) : Int)) % 4294967296).toNat % 256 := by
      apply getD_of
      rw [List.getElem?_take, if_pos (by decide), List.getElem?_drop]
      exact e4
    have h3 := leN_ge (((idxPg (chg n x) q).drop 1).take 8) 3
    rw [hl, e5] at h3
    omega
  · have e9 : (idxPg (chg n x) q)[9]? = some 0 := by
      rw [hpg, if_neg (by omega), if_pos (by decide)]
    rw [getD_of e9] at h9
    omega
theorem what_nohead (a b c N : Nat) : ¬ IsHead (pg3 a b c) N := by
  rintro ⟨_, _, h⟩
  simp [pg3] at h
theorem body_nohead {n : Nat} {x : Int} {N : Nat} (hn : n < 256) (hN : N ≤ 1000) : ∀ p ∈ bodyPgs (chg n x), ¬ IsHead p N := by
  intro p hp
  rcases List.mem_append.1 hp with hp | hp
  · obtain ⟨q, hq, rfl⟩ := List.mem_map.1 hp
    have := List.mem_range.1 hq
    rw [chg_length] at this
    exact idx_nohead hn (by omega) hN
  · obtain ⟨c, hc, rfl⟩ := List.mem_map.1 hp
    obtain ⟨i, hi, rfl⟩ := chg_mem hc
    exact what_nohead _ _ _ _
/-- A sector behind an Add: one of the record's, or as it was. -/
theorem putAll_either {s : RS} {n k : Nat} {d : DK} (hs : RSok s n) (h : OnB n k d) {L : List (List Nat)} (hL : ∀ p ∈ L, p.length = 64 ∧ ∀ c ∈ p, c < 256) (hn : L.length ≤ s.n) {j : Nat} (hj : j < n) :
    (putAll s L 0 d).read (j : Int) ∈ L ∨ (putAll s L 0 d).read (j : Int) = d.read (j : Int) := by
  by_cases he : ∃ t, t < L.length ∧ s.first + (s.place + t) % s.n = j
  · obtain ⟨t, ht, rfl⟩ := he
    left
    have h1 := putAll_at hs L 0 k d h hL hn t _ (List.getElem?_eq_getElem ht)
    rw [Nat.zero_add] at h1
    rw [h1]
    exact List.getElem_mem ht
  · right
    refine putAll_other hs hj L 0 k d h hL (fun t ht e => he ⟨t, ht, ?_⟩)
    rwa [Nat.zero_add] at e
/-- What holds between the rounds. -/
structure RoundI (d : DK) (s0 s : RS) (L : List (List CH)) (n k : Nat) : Prop where
  ok : RSok s n
  ok0 : RSok s0 n
  u0 : s0.used = 0
  on : OnB n k d
  chain : Chain d s0 L s
  nohead : ∀ j, j < n → ∀ N, s.num ≤ N → N ≤ 1000 → ¬ IsHead (d.read (j : Int)) N
theorem RoundI.open_ {d : DK} {s0 s : RS} {L : List (List CH)} {n k : Nat} (h : RoundI d s0 s L n k) (hnum : s.num ≤ 1000) : openP d (s0.n + 1) s0 = (s, L) := by
  refine openP_chain h.chain (look_nohead (h.nohead _ ?_ _ (Nat.le_refl _) hnum)) ?_
  · have := Nat.mod_lt (s.place + 0) (show 0 < s.n by have := h.ok.n1; omega)
    have := h.ok.fit
    omega
  · have h1 := h.chain.len
    have h2 := h.ok.used
    have h3 := h.chain.pos.2.2.1
    rw [h.u0] at h1
    omega
theorem RoundI.add {d : DK} {s0 s : RS} {L : List (List CH)} {n k m : Nat} {x : Int} (h : RoundI d s0 s L n k) (h1 : 1 ≤ m) (h60 : m ≤ 60) (hf : takes m ≤ s.n - s.used) (hnum : s.num < 1000) :
    RoundI (putAll s (recPgs s.last s.num (chg m x)) 0 d) s0 (s.behind m (recSum s.last s.num (chg m x))) (L ++ [chg m x]) n (k + takes m) := by
  have hl := chg_ok (n := m) (by omega) x
  have hcl := chg_length m x
  have hpg := recPgs_ok (last := s.last) (num := s.num) hl
  have hlen := recPgs_length s.last s.num (chg m x)
  rw [hcl] at hlen
  have hp := h.chain.pos
  have hlk := look_add h.ok h.on hl (by rw [hcl]; exact h1) (by rw [hcl]; exact h60) (by rw [hcl]; exact hf)
  rw [chg_norm (by omega)] at hlk
  have hkeep : Chain (putAll s (recPgs s.last s.num (chg m x)) 0 d) s0 L s := by
    refine h.chain.keep (by have := h.ok0.n1; omega) (fun i hi => ?_)
    have hplace := hp.2.2.2 h.ok0.place
    rw [h.u0, Nat.sub_zero] at hplace hi
    have hus := h.ok.used
    refine putAll_other h.ok ?_ _ 0 k d h.on hpg (fun t ht e => ?_)
    · have := Nat.mod_lt (s0.place + i) (show 0 < s0.n by have := h.ok0.n1; omega)
      have := h.ok0.fit
      omega
    · rw [Nat.zero_add, hp.2.1, hp.2.2.1, hplace, Nat.mod_add_mod] at e
      have h2 := mod_ne (a := s0.place + i) (e := s.used - i + t) (n := s0.n) (by omega) (by have := hp.2.2.1; rw [hlen] at ht; omega)
      rw [show s0.place + i + (s.used - i + t) = s0.place + s.used + t by omega] at h2
      omega
  have hnil : chg m x ≠ [] := fun e => by rw [e] at hcl; simp at hcl; omega
  have hsn := hkeep.snoc hnil (by rw [hlk])
  rw [hlk, hcl] at hsn
  have hon := putAll_on h.ok (recPgs s.last s.num (chg m x)) 0 k d h.on hpg
  rw [hlen] at hon
  refine ⟨h.ok.behind m hf _, h.ok0, h.u0, hon, hsn, fun j hj N hN1 hN2 hh => ?_⟩
  have hN : s.num + 1 ≤ N := by
    have e : (s.behind m (recSum s.last s.num (chg m x))).num = (s.num + 1) % 18446744073709551616 := rfl
    rw [e] at hN1
    omega
  rcases putAll_either h.ok h.on hpg (by rw [hlen]; omega) hj with e | e
  · rcases List.mem_cons.1 e with e | e
    · rw [e] at hh
      exact head_not h.ok.num (by omega) hh
    · exact body_nohead (by omega) hN2 _ e hh
  · rw [e] at hh
    exact h.nohead j hj N (by omega) hN2 hh
theorem RoundI.cut {d : DK} {s0 s : RS} {L : List (List CH)} {n k : Nat} (h : RoundI d s0 s L n k) (m : List Nat) (hm : m.length = 32) (hb : ∀ c ∈ m, c < 256) : RoundI d { s with last := m, used := 0 } { s with last := m, used := 0 } [] n k := by
  have ho : RSok { s with last := m, used := 0 } n := ⟨h.ok.n1, h.ok.n2, h.ok.fit, h.ok.place, h.ok.num, hm, hb, Nat.zero_le _⟩
  exact ⟨ho, ho, rfl, h.on, Chain.nil _, h.nohead⟩
theorem new_read (n : Nat) {j : Nat} (hj : j < n) : (DK.new n).read (j : Int) = zeroPg := by
  rw [onB_get (onB_new n) hj]
  show (List.replicate n zeroPg).getD j zeroPg = zeroPg
  simp [List.getD, hj]
theorem RoundI.start {n : Nat} {s : RS} (hs : RSok s n) (hu : s.used = 0) : RoundI (DK.new n) s s [] n 0 :=
  ⟨hs, hs, hu, onB_new n, Chain.nil _, fun j hj N _ _ => by rw [new_read n hj]; exact zero_not N⟩
/-- A disk that lost nothing. -/
theorem flush_crash_read {n k : Nat} {d : DK} (h : OnB n k d) : OnB n 0 (d.flush.crash []) ∧ ∀ j, j < n → (d.flush.crash []).read (j : Int) = d.read (j : Int) := by
  have hf : d.flush = { d with firm := d.cur, pend := [] } := by
    obtain ⟨h1, h2⟩ := onB_step h
    unfold DK.flush
    rw [h2, h1]
    rfl
  have hc : d.flush.crash [] = { firm := d.cur } := by
    rw [hf]
    unfold DK.crash
    rfl
  have hon : OnB n 0 { firm := d.cur } := ⟨by rw [cur_length]; exact h.len, Nat.le_refl _, rfl, rfl, applyP_all (Q := fun p => p.length = 64 ∧ ∀ c ∈ p, c < 256) h.firm (fun x hx => (h.pend x hx).2), fun x hx => by cases hx⟩
  rw [hc]
  refine ⟨hon, fun j hj => ?_⟩
  rw [onB_get hon hj, onB_get h hj]
  rfl
theorem RoundI.same {d d' : DK} {s0 s : RS} {L : List (List CH)} {n k k' : Nat} (h : RoundI d s0 s L n k) (hon : OnB n k' d') (hr : ∀ j, j < n → d'.read (j : Int) = d.read (j : Int)) : RoundI d' s0 s L n k' := by
  refine ⟨h.ok, h.ok0, h.u0, hon, h.chain.keep (by have := h.ok0.n1; omega) (fun i _ => hr _ ?_), fun j hj N h1 h2 => by rw [hr j hj]; exact h.nohead j hj N h1 h2⟩
  have := Nat.mod_lt (s0.place + i) (show 0 < s0.n by have := h.ok0.n1; omega)
  have := h.ok0.fit
  omega
/-- The ring that stands. -/
def RS0 : RS := ⟨2, 100, 0, 0, List.replicate 32 0, 0⟩
def RC0 : List CH := [(7, pg3 9 0 0)]
theorem s0_ok : RSok RS0 200 := ⟨by decide, by decide, by decide, by decide, by decide, rfl, fun c hc => by rw [List.eq_of_mem_replicate hc]; decide, by decide⟩
theorem stand_open0 : openP (DK.new 200) 101 RS0 = (RS0, []) := (RoundI.start s0_ok rfl).open_ (by decide)
def SD : DK := ((putAll RS0 (recPgs RS0.last RS0.num RC0) 0 (DK.new 200)).flush).crash []
theorem c0_ok : ∀ c ∈ RC0, CHok c := by
  intro c hc
  obtain rfl : c = (7, pg3 9 0 0) := by simpa [RC0] using hc
  refine ⟨rfl, fun y hy => ?_, by decide, by decide⟩
  simp only [pg3, List.mem_cons, List.mem_replicate] at hy
  rcases hy with rfl | rfl | rfl | ⟨_, rfl⟩ <;> decide
theorem stand_open1 : OnB 200 0 SD ∧ openP SD 101 RS0 = (RS0.behind 1 (recSum RS0.last RS0.num RC0), [RC0]) := by
  have hpg := recPgs_ok (last := RS0.last) (num := RS0.num) c0_ok
  have hlen := recPgs_length RS0.last RS0.num RC0
  have hon := putAll_on s0_ok (recPgs RS0.last RS0.num RC0) 0 0 _ (onB_new 200) hpg
  obtain ⟨h1, h2⟩ := flush_crash_read hon
  refine ⟨h1, ?_⟩
  have hlk := look_add s0_ok (onB_new 200) c0_ok (by decide) (by decide) (by decide)
  have hch : Chain (putAll RS0 (recPgs RS0.last RS0.num RC0) 0 (DK.new 200)) RS0 [RC0] (RS0.behind 1 (recSum RS0.last RS0.num RC0)) := by
    have := (Chain.nil (d := putAll RS0 (recPgs RS0.last RS0.num RC0) 0 (DK.new 200)) RS0).snoc (l := RC0) (by decide) (by rw [hlk]; rfl)
    rw [hlk] at this
    exact this
  refine openP_chain (hch.keep (by decide) (fun i _ => h2 _ ?_)) (look_nohead ?_) (by decide)
  · have := Nat.mod_lt (RS0.place + i) (show 0 < RS0.n by decide)
    show 2 + _ < 200
    have : RS0.n = 100 := rfl
    omega
  · have e : (RS0.behind 1 (recSum RS0.last RS0.num RC0)).sector SD 0 = zeroPg := by
      show SD.read ((5 : Nat) : Int) = zeroPg
      unfold SD
      rw [h2 5 (by decide), putAll_other s0_ok (by decide) _ 0 0 _ (onB_new 200) hpg (fun t ht e => ?_)]
      · exact new_read 200 (by decide)
      · have ht3 : t < 3 := ht
        have e2 : RS0.first + (RS0.place + (0 + t)) % RS0.n = 2 + (0 + (0 + t)) % 100 := rfl
        omega
    rw [e]
    exact zero_not _
end Go.Proofs.YtkabkehfckbhcaaDoor
