/-
  ring: what RingRounds keeps.
-/
import Derived.Test.YtkabkehfckbhcaaDoorZRgArg
namespace Go.Proofs.YtkabkehfckbhcaaDoor
set_option linter.unusedVariables false
set_option linter.unusedSimpArgs false
open Go.RowKit

theorem RdV.capz2 {w : World} {v : Value} {d : D} (h : RdV Tryd.prog w 26 v d) {a : Option Addr} {n c : Nat} (e : v = .slice a n c) : a = none → c = 0 := by
  have h4 : Tryd.prog.cellsOf 40 = 2 := by kernel_rfl
  obtain ⟨a', len, cap, rows, e2, h1, h2, h3, h5, h6⟩ := h.rows Tryd.underlying26 (by rw [h4]; decide)
  rw [e] at e2
  obtain ⟨rfl, -, rfl⟩ := slice_inj e2
  exact h5
def tupF (z : List Int) : List Value := z.map (Value.int .i64)
theorem tupF_one (z : List Int) : ∀ u ∈ tupF z, u.oneCell' = true := by
  intro u hu
  obtain ⟨y, _, rfl⟩ := List.mem_map.1 hu
  rfl
theorem tup_typ : ∃ it z, Tryd.prog.info? 40 = some it ∧ it.zero = some z ∧ it.size = 2 ∧ it.bytes = 16 ∧ z.cells.size = 2 := by
  have h : (Tryd.prog.info? 40).bind (fun it => it.zero.map fun z => (it.size, it.bytes, z.cells.size)) = some (2, 16, 2) := by kernel_rfl
  obtain ⟨it, h1, h⟩ := Option.bind_eq_some_iff.1 h
  obtain ⟨z, h2, h3⟩ := Option.map_eq_some_iff.1 h
  injection h3 with h3 h4
  injection h4 with h4 h5
  exact ⟨it, z, h1, h2, h3, h4, h5⟩
theorem tup_flat {l : List (List Int)} (h : ∀ z ∈ l, z.length = 2) : ∀ z ∈ l, (tupF z).length = 2 := fun z hz => by rw [tupF, List.length_map]; exact h z hz
theorem IsTup.src {w : World} {a : Option Addr} {l : List (List Int)} (h : IsTup 2 w a l) (ha : a = none → l.length = 0) : Src w 2 a l.length (l.flatMap tupF) := by
  have hf := tup_flat (fun z hz => (h.ok z hz).1)
  refine ⟨flat_length hf, ha, ?_⟩
  rintro ad rfl j u hu
  rcases h.at_ with rfl | ⟨b, off, e, _, h3⟩
  · simp at hu
  · obtain rfl := Option.some.inj e
    have hj : j < l.length * 2 := by
      have := (List.getElem?_eq_some_iff.1 hu).1
      rwa [flat_length hf] at this
    have hi : j / 2 < l.length := by omega
    have hz := List.getElem?_eq_getElem hi
    have := flat_get hf hz (j := j % 2) (by omega)
    rw [show j / 2 * 2 + j % 2 = j by omega, hu] at this
    have h4 := h3 _ _ hz (j % 2) u this.symm
    rw [Addr.add_mid]
    rw [show off + j / 2 * 2 + j % 2 = off + j by omega] at h4
    exact h4
theorem wpList_app_tup {ops : Array Oper} {rest : List Oper} {o : Oper} {a : Act} {wr : World} {Q : Exit → Act → World → Prop} {base : Nat} {pa sa : Option Addr} {pc n sc m : Nat} {l l' : List (List Int)} (hgd : o.guard = none) (s x : Operand)
    (ho : o.op = .call { callee := .builtin .append, args := #[s, x], argTypes := #[26, 26] }) (h : RowF wr base 40 2 tupF (.slice pa n pc) l) (hn : l.length = n) (hs : a.eval s = .slice pa n pc) (hx : a.eval x = .slice sa m sc) (hsrc : Src wr 2 sa m (l'.flatMap tupF)) (hf : ∀ z ∈ l', z.length = 2) (hm : l'.length = m) (hc0 : sa = none → sc = 0) (hL : n + m ≤ 10000) (hB : base ≤ wr.heap.size)
    (K : ∀ v' w', RowF w' base 40 2 tupF v' (l ++ l') → Below base wr w' → wpList Tryd.prog ops Q rest (a.put o.dst v') w') : wpList Tryd.prog ops Q (o :: rest) a wr := by
  obtain ⟨it, z, hi1, hi2, hi3, hi4, hi5⟩ := tup_typ
  have hown := h.2
  rw [hn] at hown
  refine wpList_append_src _ hgd s x 26 ho base 40 it z 2 16 Tryd.underlying26 hi1 hi2 hi3 hi4 hi5 (by decide) _ n _ hs hown sa m sc (l'.flatMap tupF) hx hsrc hc0 (fun u hu => by
      obtain ⟨q, _, hq⟩ := List.mem_flatMap.1 hu
      exact tupF_one _ u hq) (by unfold maxLen; omega) (by omega) hB fun v' w' q1 q2 q3 => ?_
  refine K v' w' ⟨fun y hy => ?_, ?_⟩ ((Below.refl base wr).grown q2 hB (fun k hk => h.base_le k hk))
  · rcases List.mem_append.1 hy with hy | hy
    · exact h.1 y hy
    · exact tup_flat hf y hy
  · rw [List.length_append, List.flatMap_append, hn, hm]
    exact q1
theorem wpList_app_recQ {te ti ts : TypeId} (hne : ti ≠ te) (hty : ∃ it z, Tryd.prog.info? te = some it ∧ it.zero = some z ∧ it.size = 1 ∧ it.bytes = 24 ∧ z.cells.size = 1) (hu : Tryd.prog.underlying ts = some (.slice te))
    {ops : Array Oper} {rest : List Oper} {o : Oper} {a : Act} {wr : World} {Q : Exit → Act → World → Prop} {base : Nat} {pa ya : Option Addr} {pc n yn yc : Nat} {vs : List Value} {L : List (List CH)} {l : List CH} (hgd : o.guard = none) (s x : Operand)
    (ho : o.op = .call { callee := .builtin .append, args := #[s, x], argTypes := #[ts, ts] }) (h : RecsT te ti wr base (.slice pa n pc) vs L) (hn : vs.length = n) (hy : RowF wr base ti 65 chF (.slice ya yn yc) l) (hs : a.eval s = .slice pa n pc) (hx : a.eval x = .slice (some ⟨wr.heap.size, 0, none⟩) 1 1) (hL : n ≤ 10000) (hB : base ≤ wr.heap.size)
    (K : ∀ v' w', RecsT te ti w' base v' (vs ++ [.slice ya yn yc]) (L ++ [l]) → But (fun k => (Value.slice pa n pc).ownBlock = some k) wr w' → Below base wr w' → (∀ k, v'.ownBlock = some k → (Value.slice pa n pc).ownBlock = some k ∨ wr.heap.size ≤ k) → wpList Tryd.prog ops Q rest (a.put o.dst v') w') : wpList Tryd.prog ops Q (o :: rest) a (wr.alloc (.cells #[.slice ya yn yc] te)) := by
  obtain ⟨it, z, hi1, hi2, hi3, hi4, hi5⟩ := hty
  have hb : Below wr.heap.size wr (wr.alloc (.cells #[.slice ya yn yc] te)) := (Below.refl _ _).alloc (Nat.le_refl _) _
  have hown := (h.out.below hb).2
  rw [hn] at hown
  refine wpList_append_src _ hgd s x ts ho base te it z 1 24 hu hi1 hi2 hi3 hi4 (by rw [hi5]) (by decide) _ n _ hs hown _ 1 1 [.slice ya yn yc] hx (sl_src te wr _) (by intro e; cases e) (fun u hu => by rw [List.mem_singleton.1 hu]; rfl) (by unfold maxLen; omega) (by omega) (Nat.le_trans hB hb.size) fun v' w' q1 q2 q3 => ?_
  rw [← hn] at q1
  have hbt : But (fun k => (Value.slice pa n pc).ownBlock = some k) wr w' := ((But.refl _ wr).alloc _).grown q2 (fun k hk => hk)
  have hbl : Below base wr w' := (hb.mono hB).grown q2 (Nat.le_trans hB hb.size) (fun k hk => h.out.base_le k hk)
  have hin : ∀ {x : Value} {m : List CH}, RowF wr base ti 65 chF x m → RowF w' base ti 65 chF x m := fun hr => hr.but hbt (fun k hk => hr.ne_row h.out hne hk)
  have hq3 : ∀ k, v'.ownBlock = some k → (Value.slice pa n pc).ownBlock = some k ∨ wr.heap.size ≤ k := fun k hk => by
    rcases q3 with e | e
    · exact .inl (e ▸ hk)
    · rw [e] at hk
      have := Option.some.inj hk
      have := hb.size
      exact .inr (by omega)
  refine K v' w' ⟨⟨fun u _ => rfl, ?_⟩, by simp [h.len], fun i u m hu hm => ?_⟩ hbt hbl hq3
  · rw [List.length_append, List.flatMap_append]
    simpa [oneF] using q1
  · rcases Nat.lt_trichotomy i vs.length with hi | hi | hi
    · rw [List.getElem?_append_left hi] at hu
      rw [List.getElem?_append_left (by rw [← h.len]; exact hi)] at hm
      exact hin (h.ins i u m hu hm)
    · rw [hi, List.getElem?_append_right (Nat.le_refl _), Nat.sub_self] at hu
      rw [hi, h.len, List.getElem?_append_right (Nat.le_refl _), Nat.sub_self] at hm
      simp at hu hm
      subst hu hm
      exact hin hy
    · rw [List.getElem?_eq_none (by simp; omega)] at hu; cases hu
theorem IsChs.but {S : Nat → Prop} {w w' : World} {a : Option Addr} {l : List CH} (h : IsChs w a l) (hb : But S w w') (hs : ∀ b, a.map (·.block) = some b → ¬ S b) : IsChs w' a l := by
  refine ⟨h.ok, h.at_.imp id ?_⟩
  rintro ⟨b, off, e1, e2, e3⟩
  exact ⟨b, off, e1, Nat.lt_of_lt_of_le e2 hb.size, fun i c hi j v hv => by rw [hb.cell (by exact e2) (hs b (by rw [e1]; rfl))]; exact e3 i c hi j v hv⟩
def dg2 (a : Nat) : List Nat := a :: 3 :: List.replicate 30 0
theorem dg2_length (a : Nat) : (dg2 a).length = 32 := by simp [dg2]
theorem dg2_byte {a : Nat} (h : a < 256) : ∀ c ∈ dg2 a, c < 256 := by
  intro c hc
  simp only [dg2, List.mem_cons, List.mem_replicate] at hc
  rcases hc with rfl | rfl | ⟨_, rfl⟩
  · exact h
  · decide
  · decide
theorem built_dg2 (a : Nat) : Tryd.prog.built 23 [(0, .int .u8 (a : Int)), (1, .int .u8 3)] = some (nv .u8 (dg2 a)) := by kernel_rfl
/-- What RingRounds keeps. N: all blocks but the disk's. -/
structure RR (W : World) (B : Nat) (w : World) (rb db fb : Nat) (l2 : List (List Int)) (av : Value) (s0 s : RS) (va : Value) (us : List Value) (L Lc : List (List CH)) (kk : Nat) (d : DK) (N : Nat → Prop) : Prop where
  dk : DkN N B w db d
  nlt : ∀ k, N k → k < w.heap.size
  rgN : N rb
  isrg : IsRg 100 w rb db s
  ri : RoundI d s0 s Lc 100 kk
  fbk : IsBlk w fb (markL s0).toArray 25
  fbN : N fb
  recs : RRecs w B va us L
  inN : ∀ k, va.ownBlock = some k → N k
  insN : ∀ x ∈ us, ∀ k, x.ownBlock = some k → N k
  tup : RowF w B 40 2 tupF av l2
  tupN : ∀ k, av.ownBlock = some k → N k
  bel : Below W.heap.size W w
  hB : W.heap.size ≤ B
  hs : B ≤ w.heap.size
  hrb : B ≤ rb
  hfb : B ≤ fb
section
variable {W : World} {B : Nat} {w w' : World} {rb db fb : Nat} {l2 : List (List Int)} {av : Value} {s0 s : RS} {va : Value} {us : List Value} {L Lc : List (List CH)} {kk : Nat} {d : DK} {N : Nat → Prop}
/-- Whatever was made since. -/
def Grow (N : Nat → Prop) (w w' : World) (k : Nat) : Prop := N k ∨ (w.heap.size ≤ k ∧ k < w'.heap.size)
theorem RR.below (h : RR W B w rb db fb l2 av s0 s va us L Lc kk d N) (hb : Below w.heap.size w w') : RR W B w' rb db fb l2 av s0 s va us L Lc kk d (Grow N w w') :=
  ⟨((h.dk.widen' (N' := fun k => N k ∨ w.heap.size ≤ k) (fun k hk => hk)).below hb).fewer (fun k hk => hk.imp id (fun e => e.1)), fun k hk => hk.elim (fun e => Nat.lt_of_lt_of_le (h.nlt k e) hb.size) (fun e => e.2), .inl h.rgN, h.isrg.below hb, h.ri, h.fbk.below hb h.fbk.lt, .inl h.fbN, h.recs.below hb, fun k hk => .inl (h.inN k hk), fun x hx k hk => .inl (h.insN x hx k hk), h.tup.below hb, fun k hk => .inl (h.tupN k hk), h.bel.trans (hb.mono h.bel.size), h.hB, Nat.le_trans h.hs hb.size, h.hrb, h.hfb⟩
theorem RR.fb_ne (h : RR W B w rb db fb l2 av s0 s va us L Lc kk d N) : fb ≠ rb := fun e => by
  have h1 : w.heap[rb]? = some (.cells (ringL db s).toArray 100) := h.isrg
  have h2 : w.heap[rb]? = some (.cells (markL s0).toArray 25) := e ▸ h.fbk
  rw [h1] at h2
  injection h2 with h2
  injection h2 with _ h3 _
  exact absurd h3 (by decide)
/-- All of N but the ring's block stays. -/
theorem RR.turn (h : RR W B w rb db fb l2 av s0 s va us L Lc kk d N) {s' : RS} {Lc' : List (List CH)} {kk' : Nat} {d' : DK} (hd : DkN N B w' db d') (hr : IsRg 100 w' rb db s') (hri : RoundI d' s0 s' Lc' 100 kk') (hb : But (fun k => ¬ N k ∨ k = rb) w w') (hbl : Below B w w') : RR W B w' rb db fb l2 av s0 s' va us L Lc' kk' d' N := by
  have hbl' : Below W.heap.size W w' := h.bel.trans (hbl.mono h.hB)
  refine ⟨hd, fun k hk => Nat.lt_of_lt_of_le (h.nlt k hk) hb.size, h.rgN, hr, hri, hb.blk h.fbk (fun e => e.elim (fun x => x h.fbN) h.fb_ne), h.fbN, ⟨h.recs.out.but hb (fun k hk e => e.elim (fun x => x (h.inN k hk)) (fun x => h.recs.out.no_blk h.isrg (by decide) (by rw [hk, x]))), h.recs.len, fun i x l hx hl => ?_⟩, h.inN, h.insN, h.tup.but hb (fun k hk e => e.elim (fun x => x (h.tupN k hk)) (fun x => h.tup.no_blk h.isrg (by decide) (by rw [hk, x]))), h.tupN, hbl', h.hB, Nat.le_trans h.hs hb.size, h.hrb, h.hfb⟩
  have hi := h.recs.ins i x l hx hl
  exact hi.but hb (fun k hk e => e.elim (fun y => y (h.insN x (List.mem_of_getElem? hx) k hk)) (fun y => hi.no_blk h.isrg (by decide) (by rw [hk, y])))
/-- Add. -/
theorem RR.add (h : RR W B w rb db fb l2 av s0 s va us L Lc kk d N) {ca : Option Addr} {cc m : Nat} {x : Int} (hc : IsChs w ca (chg m x)) (h1 : 1 ≤ m) (h2 : m ≤ 60) (hf : takes m ≤ s.n - s.used) (hk : kk ≤ 100000) (hnum : s.num < 1000) (hcN : ∀ b, ca.map (·.block) = some b → N b ∧ b ≠ rb) :
    Calls Tryd.prog 24 #[.pointer (some ⟨rb, 0, none⟩), .slice ca m cc] w fun e w' => e = .returned .nilIface ∧ RR W B w' rb db fb l2 av s0 (s.behind m (recSum s.last s.num (chg m x))) va us L (Lc ++ [chg m x]) (kk + takes m) (putAll s (recPgs s.last s.num (chg m x)) 0 d) N ∧ IsChs w' ca (chg m x) := by
  have hl : (chg m x).length = m := chg_length m x
  have := add_ok (N := N) (B := B) (cc := cc) ⟨h.isrg, h.ri.ok, h.dk, h.ri.on, hk, hc, by rw [hl]; exact h1, by rw [hl]; exact h2, by rw [hl]; exact hf, h.rgN, h.nlt, h.hs, h.hrb⟩
  rw [hl] at this
  refine this.mono ?_
  rintro e w' ⟨he, r1, r2, r3, r4⟩
  refine ⟨he, h.turn r2 r1 (h.ri.add h1 h2 hf hnum) r3 r4, hc.ok, hc.at_.imp id ?_⟩
  rintro ⟨b, off, e1, e2, e3⟩
  have hb := hcN b (by rw [e1]; rfl)
  exact ⟨b, off, e1, Nat.lt_of_lt_of_le e2 r3.size, fun i c hi j v hv => by rw [r3.cell (by exact e2) (fun x => x.elim (fun y => y hb.1) hb.2)]; exact e3 i c hi j v hv⟩
/-- One more record told. -/
theorem RR.told (h : RR W B w rb db fb l2 av s0 s va us L Lc kk d N) {va' : Value} {y : Value} {l : List CH} (hr : RRecs w' B va' (us ++ [y]) (L ++ [l])) (hb : But (fun k => va.ownBlock = some k) w w') (hbl : Below B w w') (hq : ∀ k, va'.ownBlock = some k → va.ownBlock = some k ∨ w.heap.size ≤ k) (hy : ∀ k, y.ownBlock = some k → N k) :
    RR W B w' rb db fb l2 av s0 s va' (us ++ [y]) (L ++ [l]) Lc kk d (Grow N w w') := by
  have hd : DkN (Grow N w w') B w' db d := ((h.dk.widen' (N' := fun k => N k ∨ w.heap.size ≤ k) (fun k hk => hk)).but' hb (fun k hk => .inl (h.inN k hk))).fewer (fun k hk => hk.imp id (fun e => e.1))
  refine ⟨hd, fun k hk => hk.elim (fun e => Nat.lt_of_lt_of_le (h.nlt k e) hb.size) (fun e => e.2), .inl h.rgN, IsRg.but h.isrg hb (fun e => h.recs.out.no_blk h.isrg (by decide) e), h.ri, hb.blk h.fbk (fun e => h.recs.out.no_blk h.fbk (by decide) e), .inl h.fbN, hr, fun k hk => (hq k hk).elim (fun e => .inl (h.inN k e)) (fun e => .inr ⟨e, hr.out.lt k hk⟩), fun x hx k hk => ?_, h.tup.but hb (fun k hk => h.tup.ne_row h.recs.out (by decide) hk), fun k hk => .inl (h.tupN k hk), h.bel.trans (hbl.mono h.hB), h.hB, Nat.le_trans h.hs hb.size, h.hrb, h.hfb⟩
  rcases List.mem_append.1 hx with hx | hx
  · exact .inl (h.insN x hx k hk)
  · rw [List.mem_singleton.1 hx] at hk
    exact .inl (hy k hk)
/-- Cut, Head, and nothing told yet. -/
theorem RR.cut (h : RR W B w rb db fb l2 av s0 s va us L Lc kk d N) (m : List Nat) (hm : m.length = 32) (hmb : ∀ c ∈ m, c < 256) :
    Calls Tryd.prog 28 #[.pointer (some ⟨rb, 0, none⟩), .agg (nv .u8 m)] w fun e w' => (∃ v, e = .returned v) ∧ IsRg 100 w' rb db { s with last := m, used := 0 } ∧ But (fun k => k = rb) w w' :=
  cut_any h.isrg h.ri.ok.len m hm
theorem RR.wasCut (h : RR W B w rb db fb l2 av s0 s va us L Lc kk d N) {m : List Nat} (hm : m.length = 32) (hmb : ∀ c ∈ m, c < 256) {w1 w2 : World} (h1 : IsRg 100 w1 rb db { s with last := m, used := 0 }) (hb1 : But (fun k => k = rb) w w1) (hb2 : Below w1.heap.size w1 w2) :
    RR W B (w2.setRow fb (markL { s with last := m, used := 0 }).toArray) rb db fb l2 av { s with last := m, used := 0 } { s with last := m, used := 0 } (.slice none 0 0) [] [] [] kk d (Grow N w1 w2) := by
  have hsz : w.heap.size ≤ w1.heap.size := hb1.size
  have hbb : But (fun k => k = fb) w2 (w2.setRow fb (markL { s with last := m, used := 0 }).toArray) := setRow_but _ _ _
  have f1 : IsBlk w1 fb (markL s0).toArray 25 := hb1.blk h.fbk h.fb_ne
  have f2 := f1.below hb2 f1.lt
  have hd1 : DkN N B w1 db d := h.dk.but' hb1 (fun k hk => hk ▸ h.rgN)
  have hd2 : DkN (Grow N w1 w2) B w2 db d := ((hd1.widen' (N' := fun k => N k ∨ w1.heap.size ≤ k) (fun k hk => hk)).below hb2).fewer (fun k hk => hk.imp id (fun e => e.1))
  have hr2 := IsRg.below h1 hb2
  have hws : (w2.setRow fb (markL { s with last := m, used := 0 }).toArray).heap.size = w2.heap.size := Nat.le_antisymm (by simp [World.setRow]) hbb.size
  have t1 : RowF w1 B 40 2 tupF av l2 := h.tup.but hb1 (fun k hk e => h.tup.no_blk h.isrg (by decide) (by rw [hk, e]))
  have t2 := t1.below hb2
  refine ⟨hd2.but' hbb (fun k hk => hk ▸ .inl h.fbN), fun k hk => ?_, .inl h.rgN, IsRg.but hr2 hbb (fun e => h.fb_ne e.symm), h.ri.cut m hm hmb, isBlk_setRow f2 _, .inl h.fbN, RecsT.nil _ _ _ _, (fun k hk => by simp [Value.ownBlock] at hk), (fun x hx => by cases hx), t2.but hbb (fun k hk e => t2.no_blk f2 (by decide) (by rw [hk, e])), fun k hk => .inl (h.tupN k hk), ?_, h.hB, ?_, h.hrb, h.hfb⟩
  · rw [hws]
    exact hk.elim (fun e => Nat.lt_of_lt_of_le (h.nlt k e) (Nat.le_trans hsz hb2.size)) (fun e => e.2)
  · refine ((h.bel.trans (hb1.below h.bel.size (fun k hk => hk ▸ Nat.le_trans h.hB h.hrb))).trans (hb2.mono (Nat.le_trans h.bel.size hsz))).trans (hbb.below (Nat.le_trans h.bel.size (Nat.le_trans hsz hb2.size)) (fun k hk => hk ▸ Nat.le_trans h.hB h.hfb))
  · rw [hws]
    exact Nat.le_trans h.hs (Nat.le_trans hsz hb2.size)
end
end Go.Proofs.YtkabkehfckbhcaaDoor
