/-
  pdu: the plain laws: what is encoded is read back; sizes; what breaks.
-/
import Derived.Test.YtaehaclmagnncaaPduPlain
namespace Go.Proofs.Ytaehaclmagnncaa
set_option linter.unusedVariables false
set_option linter.unusedSimpArgs false

theorem numB_be4 (x : Nat) (h : x < 4294967296) : numB (be4 x) = x := by
  simp only [numB, be4, List.foldl]
  omega
theorem numB_be8 (x : Nat) (h : x < 18446744073709551616) : numB (be8 x) = x := by
  simp only [numB, be8, be4, List.cons_append, List.nil_append, List.foldl]
  omega
theorem numB_two (a b : Nat) : numB [0, a, b] = a * 256 + b := by simp [numB]
theorem sumd_length (l : List Nat) : (sumd l).length = 4 := rfl
theorem pad_length (l : List Nat) : (pad l).length = (l.length + 3) / 4 * 4 := by
  simp only [pad, List.length_append, List.length_replicate]; omega
theorem seven {l : List Nat} (h : l.length = 7) : ∃ a b c d e f g, l = [a, b, c, d, e, f, g] := by
  rcases l with _ | ⟨a, _ | ⟨b, _ | ⟨c, _ | ⟨d, _ | ⟨e, _ | ⟨f, _ | ⟨g, l⟩⟩⟩⟩⟩⟩⟩ <;> simp at h
  subst h
  exact ⟨a, b, c, d, e, f, g, rfl⟩
theorem headP_length (p : PD) (h : p.words.length = 7) : (headP p).length = 48 := by
  obtain ⟨a, b, c, d, e, f, g, hw⟩ := seven h
  simp [headP, hw, be8, be4]
theorem headsP_length (p : PD) (h : p.words.length = 7) (x : Bool) : (headsP p x).length = 48 + p.ahs.length + (if x then 4 else 0) := by
  cases x <;> simp [headsP, headP_length p h, sumd_length] <;> omega
theorem dataP_length (p : PD) (d : Bool) : (dataP p d).length = (p.data.length + 3) / 4 * 4 + (if d && decide (0 < p.data.length) then 4 else 0) := by
  unfold dataP
  by_cases h : p.data = []
  · simp [h]
  · have h1 : 0 < p.data.length := List.length_pos_iff.2 h
    rw [if_neg h, List.length_append, pad_length]
    cases d <;> simp [sumd_length, h1]
/-- How many bytes. -/
def sizeP (p : PD) (h d : Bool) : Nat := 48 + p.ahs.length + (if h then 4 else 0) + ((p.data.length + 3) / 4 * 4 + (if d && decide (0 < p.data.length) then 4 else 0))
theorem encP_length (p : PD) (hw : p.words.length = 7) (hm : p.may = true) (h d : Bool) : (encP p h d).length = sizeP p h d := by
  rw [encP, if_pos hm, List.length_append, headsP_length p hw, dataP_length, sizeP]
theorem may_iff {p : PD} : p.may = true ↔ 0 ≤ p.op ∧ p.op < 64 ∧ p.ahs.length ≤ 32 ∧ p.ahs.length % 4 = 0 ∧ p.data.length ≤ 256 := by simp [PD.may]
theorem fits_sumd (l : List Nat) : fitsB (l ++ sumd l) = true := by
  unfold fitsB
  rw [List.length_append, sumd_length, Nat.add_sub_cancel, List.take_left, List.drop_left]
  simp [sumd]
theorem getD_left (a r : List Nat) (i : Nat) (h : i < a.length) : (a ++ r).getD i 0 = a.getD i 0 := by
  simp [List.getD, List.getElem?_append_left h]
theorem sub_left (a r : List Nat) (o n : Nat) (h : o + n ≤ a.length) : sub (a ++ r) o n = sub a o n := by
  unfold sub
  rw [List.drop_append_of_le_length (by omega), List.take_append_of_le_length (by rw [List.length_drop]; omega)]
/-- What the first 48 bytes tell. -/
theorem head_told (p : PD) (hp : p.Ok) (hm : p.may = true) (r : List Nat) :
    ahsN (headP p ++ r) = p.ahs.length ∧ dataN (headP p ++ r) = p.data.length ∧ badHead (headP p ++ r) = false := by
  obtain ⟨h1, h2, h3, h4, h5⟩ := may_iff.1 hm
  have hl := headP_length p hp.wl
  have e0 : (headP p ++ r).getD 0 0 = opByte p := rfl
  have e1 : ahsN (headP p ++ r) = p.ahs.length := by
    show 4 * (p.ahs.length / 4) = _
    omega
  have e2 : dataN (headP p ++ r) = p.data.length := by
    show numB [0, p.data.length / 256, p.data.length % 256] = _
    rw [numB_two]; omega
  refine ⟨e1, e2, ?_⟩
  unfold badHead
  rw [e0, e1, e2]
  unfold opByte
  cases p.imm <;> simp <;> omega
theorem head_read (p : PD) (hp : p.Ok) (hm : p.may = true) (r : List Nat) : readP (headP p ++ (p.ahs ++ r)) = { p with data := [] } := by
  obtain ⟨e1, e2, -⟩ := head_told p hp hm (p.ahs ++ r)
  obtain ⟨h1, h2, h3, h4, h5⟩ := may_iff.1 hm
  have hl := headP_length p hp.wl
  obtain ⟨a, b, c, d, e, f, g, hw⟩ := seven hp.wl
  have hws := hp.words
  have e0 : (headP p ++ (p.ahs ++ r)).getD 0 0 = opByte p := rfl
  have ea : sub (headP p ++ (p.ahs ++ r)) 48 (ahsN (headP p ++ (p.ahs ++ r))) = p.ahs := by
    rw [e1]
    unfold sub
    rw [List.drop_append_of_le_length (by omega), List.drop_of_length_le (by omega), List.nil_append, List.take_left]
  have ew : wordsP (headP p ++ (p.ahs ++ r)) = p.words := by
    have k : ∀ i, i < 7 → sub (headP p ++ (p.ahs ++ r)) (20 + 4 * i) 4 = sub (headP p) (20 + 4 * i) 4 := fun i hi => sub_left _ _ _ _ (by omega)
    simp only [wordsP, List.range, List.range.loop, List.map]
    rw [k 0 (by omega), k 1 (by omega), k 2 (by omega), k 3 (by omega), k 4 (by omega), k 5 (by omega), k 6 (by omega)]
    rw [hw] at hws ⊢
    have eh : headP p = [opByte p, p.flags, p.s0, p.s1, p.ahs.length / 4, 0, p.data.length / 256, p.data.length % 256] ++ be8 p.lun ++ be4 p.tag ++ (be4 a ++ (be4 b ++ (be4 c ++ (be4 d ++ (be4 e ++ (be4 f ++ be4 g)))))) := by
      simp [headP, hw]
    rw [eh]
    have w : ∀ x ∈ [a, b, c, d, e, f, g], numB (be4 x) = x := fun x hx => numB_be4 x (hws x hx)
    have s0 : numB (be4 a) = a := w a (by simp)
    have s1 : numB (be4 b) = b := w b (by simp)
    have s2 : numB (be4 c) = c := w c (by simp)
    have s3 : numB (be4 d) = d := w d (by simp)
    have s4 : numB (be4 e) = e := w e (by simp)
    have s5 : numB (be4 f) = f := w f (by simp)
    have s6 : numB (be4 g) = g := w g (by simp)
    simp only [List.cons.injEq, and_true]
    exact ⟨s0, s1, s2, s3, s4, s5, s6⟩
  have el : numB (sub (headP p ++ (p.ahs ++ r)) 8 8) = p.lun := by
    rw [sub_left _ _ _ _ (by omega)]
    exact numB_be8 _ hp.lun
  have et : numB (sub (headP p ++ (p.ahs ++ r)) 16 4) = p.tag := by
    rw [sub_left _ _ _ _ (by omega)]
    exact numB_be4 _ hp.tag
  have eo : ((opByte p % 64 : Nat) : Int) = p.op := by unfold opByte; cases p.imm <;> simp <;> omega
  have ei : decide (64 ≤ opByte p) = p.imm := by unfold opByte; cases p.imm <;> simp <;> omega
  unfold readP
  rw [e0, ea, el, et, ew, eo, ei]
  rfl
/-- A part of what is encoded is nothing yet. -/
theorem find_part (p : PD) (hp : p.Ok) (hm : p.may = true) (h d : Bool) (n : Nat) (hn : n < (encP p h d).length) : findP ((encP p h d).take n) h d = .nothing := by
  have hs := encP_length p hp.wl hm h d
  have hl := headP_length p hp.wl
  have hen : encP p h d = headP p ++ (p.ahs ++ ((if h then sumd (headP p ++ p.ahs) else []) ++ dataP p d)) := by rw [encP, if_pos hm, headsP]; simp [List.append_assoc]
  unfold findP
  by_cases h1 : ((encP p h d).take n).length < 48
  · rw [if_pos h1]
  rw [if_neg h1]
  have hn48 : 48 ≤ n := by rw [List.length_take] at h1; omega
  have ht : ∃ r, (encP p h d).take n = headP p ++ r := ⟨_, by rw [hen, List.take_append, List.take_of_length_le (by omega)]⟩
  obtain ⟨r, hr⟩ := ht
  obtain ⟨e1, e2, e3⟩ := head_told p hp hm r
  have hlen : ((encP p h d).take n).length = n := by rw [List.length_take]; omega
  rw [hr] at hlen ⊢
  rw [e3]
  simp only [Bool.false_eq_true, if_false]
  have eat : ∀ x, atN (headP p ++ r) x = 48 + p.ahs.length + (if x then 4 else 0) := fun x => by rw [atN, e1]
  have ee : endN (headP p ++ r) h d = sizeP p h d := by rw [endN, eat, e2, sizeP]; omega
  rw [ee, eat, hlen]
  by_cases h2 : (h && decide (n < 48 + p.ahs.length + (if true then 4 else 0))) = true
  · rw [if_pos h2]
  rw [if_neg h2]
  have h3 : ¬ (h && !fitsB ((headP p ++ r).take (48 + p.ahs.length + (if true then 4 else 0)))) = true := by
    cases h with
    | false => simp
    | true =>
      simp only [Bool.true_and, decide_eq_true_eq, if_true] at h2 ⊢
      have : (headP p ++ r).take (48 + p.ahs.length + 4) = (headP p ++ p.ahs) ++ sumd (headP p ++ p.ahs) := by
        rw [← hr, List.take_take, Nat.min_eq_left (by omega), hen]
        have e : headP p ++ (p.ahs ++ ((if true = true then sumd (headP p ++ p.ahs) else []) ++ dataP p d)) = ((headP p ++ p.ahs) ++ sumd (headP p ++ p.ahs)) ++ dataP p d := by simp [List.append_assoc]
        rw [e, List.take_append_of_le_length (by simp [hl, sumd_length]; omega), List.take_of_length_le (by simp [hl, sumd_length]; omega)]
      rw [this, fits_sumd]; simp
  rw [if_neg h3, if_pos (by omega)]
/-- What is encoded is read as it was, whatever follows. -/
theorem find_whole (p : PD) (hp : p.Ok) (hm : p.may = true) (h d : Bool) (t : List Nat) : findP (encP p h d ++ t) h d = .whole ∧ pduP (encP p h d ++ t) h d = p ∧ restP (encP p h d ++ t) h d = t := by
  have hs := encP_length p hp.wl hm h d
  have hl := headP_length p hp.wl
  have hen : encP p h d ++ t = headP p ++ (p.ahs ++ ((if h then sumd (headP p ++ p.ahs) else []) ++ (dataP p d ++ t))) := by rw [encP, if_pos hm, headsP]; simp [List.append_assoc]
  have hen2 : encP p h d ++ t = headsP p h ++ (dataP p d ++ t) := by rw [encP, if_pos hm, List.append_assoc]
  obtain ⟨e1, e2, e3⟩ := head_told p hp hm (p.ahs ++ ((if h then sumd (headP p ++ p.ahs) else []) ++ (dataP p d ++ t)))
  have er := head_read p hp hm ((if h then sumd (headP p ++ p.ahs) else []) ++ (dataP p d ++ t))
  rw [← hen] at e1 e2 e3 er
  have hlen : (encP p h d ++ t).length = sizeP p h d + t.length := by rw [List.length_append, hs]
  have eat : ∀ x, atN (encP p h d ++ t) x = 48 + p.ahs.length + (if x then 4 else 0) := fun x => by rw [atN, e1]
  have ee : endN (encP p h d ++ t) h d = sizeP p h d := by rw [endN, eat, e2, sizeP]; omega
  have hat : atN (encP p h d ++ t) h = (headsP p h).length := by rw [eat, headsP_length p hp.wl]
  have hsz : sizeP p h d = (headsP p h).length + (dataP p d).length := by rw [headsP_length p hp.wl, dataP_length, sizeP]
  have esub : sub (encP p h d ++ t) (headsP p h).length (dataP p d).length = dataP p d := by
    rw [hen2]; unfold sub; rw [List.drop_left, List.take_left]
  have hf : findP (encP p h d ++ t) h d = .whole := by
    unfold findP
    rw [if_neg (by rw [hlen, sizeP]; omega), e3]
    simp only [Bool.false_eq_true, if_false]
    have h2 : ¬ (h && decide ((encP p h d ++ t).length < atN (encP p h d ++ t) true)) = true := by
      rw [hlen, eat]
      cases h with
      | false => simp
      | true => simp [sizeP]; omega
    rw [if_neg h2]
    have h3 : ¬ (h && !fitsB ((encP p h d ++ t).take (atN (encP p h d ++ t) true))) = true := by
      cases h with
      | false => simp
      | true =>
        rw [hat, hen2, List.take_left, headsP, if_pos rfl, fits_sumd]
        simp
    rw [if_neg h3, if_neg (by rw [ee, hlen]; omega)]
    have h4 : ¬ (d && decide (0 < dataN (encP p h d ++ t)) && !fitsB (sub (encP p h d ++ t) (atN (encP p h d ++ t) h) (endN (encP p h d ++ t) h d - atN (encP p h d ++ t) h))) = true := by
      rw [ee, hat, e2, hsz, Nat.add_sub_cancel_left, esub]
      cases d with
      | false => simp
      | true =>
        by_cases hz : p.data = []
        · simp [hz]
        · rw [dataP, if_neg hz]
          simp [fits_sumd]
    rw [if_neg h4]
  refine ⟨hf, ?_, ?_⟩
  · unfold pduP
    rw [hf]
    simp only
    have ed : sub (encP p h d ++ t) (atN (encP p h d ++ t) h) (dataN (encP p h d ++ t)) = p.data := by
      rw [hat, e2, hen2]
      unfold sub
      rw [List.drop_left]
      by_cases hz : p.data = []
      · simp [hz]
      · rw [dataP, if_neg hz, pad, List.append_assoc, List.append_assoc, List.take_left]
    rw [ed, er]
  · unfold restP
    rw [hf]
    simp only
    rw [ee, ← hs, List.drop_left]
/-- What breaks a reader. -/
theorem find_broken (c : Nat) (hc : 128 ≤ c) (r : List Nat) (h d : Bool) (hl : 47 ≤ r.length) : findP (c :: r) h d = .broken := by
  unfold findP
  rw [if_neg (by simp; omega)]
  have : badHead (c :: r) = true := by simp [badHead, hc]
  rw [if_pos this]
end Go.Proofs.Ytaehaclmagnncaa
