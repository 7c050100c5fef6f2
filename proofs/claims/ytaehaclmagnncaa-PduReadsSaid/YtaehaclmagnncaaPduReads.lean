-- slots 96
/-
  pdu: PduReads, walked.
-/
import Derived.Test.YtaehaclmagnncaaPduBack
import Derived.Test.YtaehaclmagnncaaPduRt
import Derived.Test.YtaehaclmagnncaaPduRd2
import Derived.Deep.RegionHeld3
namespace Go.Proofs.Ytaehaclmagnncaa
set_option linter.unusedVariables false
set_option linter.unusedSimpArgs false
open Go.RowKit
attribute [local go_sem ↓] Go.wp_at_zero Go.wp_at_succ

/-- Two readers, side by side. -/
structure RB (W2 W : World) (rb mb : Nat) (v : Value) (tp : Option Addr) (u : Value) (l m : List Nat) (br bm : Bool) : Prop where
  r : IsRd W rb rb v tp l br
  m : IsRr W rb mb u m bm
  sep : ∀ k, v.ownBlock = some k → u.ownBlock ≠ some k
  bel : Below rb W2 W
section
variable {W2 W W' : World} {rb mb : Nat} {v v' : Value} {tp tp' : Option Addr} {u u' : Value} {l m l' m' : List Nat} {br bm br' bm' : Bool}
theorem RB.ne (h : RB W2 W rb mb v tp u l m br bm) : mb ≠ rb := blk_ne h.m.blk h.r.blk (by decide)
theorem RB.below (h : RB W2 W rb mb v tp u l m br bm) (hb : Below W.heap.size W W') : RB W2 W' rb mb v tp u l m br bm :=
  ⟨h.r.below hb, h.m.below hb, h.sep, h.bel.trans (hb.mono (Nat.le_of_lt h.r.blk.lt))⟩
theorem RB.feed (h : RB W2 W rb mb v tp u l m br bm) (hr : IsRd W' rb rb v' tp l' br') (hb : But (RdS rb v) W W') (hv : v'.ownBlock = v.ownBlock ∨ v'.ownBlock = some W.heap.size) : RB W2 W' rb mb v' tp u l' m br' bm := by
  refine ⟨hr, h.m.but hb ?_ ?_, ?_, h.bel.trans (hb.below (Nat.le_of_lt h.r.blk.lt) ?_)⟩
  · rintro (e | e)
    · exact h.ne e
    · exact h.r.own.ne_blk h.m.blk (by decide) e
  · rintro k hk (e | e)
    · exact h.m.own.ne_blk h.r.blk (by decide) (by rw [hk, e])
    · exact h.sep k e hk
  · intro k hk e
    rcases hv with hv | hv
    · exact h.sep k (by rw [← hv, hk]) e
    · rw [hk] at hv; injection hv with hv; have := h.m.own.lt k e; omega
  · rintro k (rfl | hk)
    · exact h.r.hB
    · exact h.r.own.base_le k hk
theorem RB.app (h : RB W2 W rb mb v tp u l m br bm) (ho : Own W' rb u' m') (hg : W.grownBy W' u.ownBlock) (hv : u'.ownBlock = u.ownBlock ∨ u'.ownBlock = some W.heap.size) : RB W2 (W'.setCell ⟨mb, 0, none⟩ u') rb mb v tp u' l m' br bm := by
  have hmu := h.m.ne
  have hb : But (fun k => k = mb ∨ u.ownBlock = some k) W (W'.setCell ⟨mb, 0, none⟩ u') := ((But.refl _ W).grown hg (fun k hk => .inr hk)).setCell (p := ⟨mb, 0, none⟩) (.inl rfl) _
  have hmb := h.m.blk.grown hg hmu
  have hne' := ho.ne_blk hmb (by decide)
  refine ⟨h.r.but hb ?_ ?_ ?_, ⟨?_, ?_, h.m.hB⟩, ?_, h.bel.trans (hb.below (Nat.le_of_lt h.r.blk.lt) ?_)⟩
  · rintro (e | e)
    · exact h.ne e.symm
    · exact h.m.own.ne_blk h.r.blk (by decide) e
  · rintro k hk (e | e)
    · exact h.r.own.ne_blk h.m.blk (by decide) (by rw [hk, e])
    · exact h.sep k hk e
  · rintro a ha e
    obtain ⟨tb, rfl, ht⟩ := h.r.tab a ha
    rcases e with e | e
    · exact blk_ne ht h.m.blk (by decide) e
    · exact h.m.own.ne_blk ht (by decide) e
  · have := hmb.set 0 u'
    exact this
  · exact ((But.refl (fun k => k = mb) W').setCell (p := ⟨mb, 0, none⟩) rfl u').own ho (fun k hk e => hne' (by rw [hk, e]))
  · intro k hk e
    rcases hv with hv | hv
    · exact h.sep k hk (by rw [← hv, e])
    · rw [e] at hv; injection hv with hv; have := h.r.own.lt k hk; omega
  · rintro k (rfl | hk)
    · exact h.m.hB
    · exact h.m.own.base_le k hk
theorem RB.next1 (h : RB W2 W rb mb v tp u l m br bm) (hr : IsRd W' rb rb v' tp' l' br') (hb : But (fun k => k = rb) W W') (hv : NV W rb v') : RB W2 W' rb mb v' tp' u l' m br' bm := by
  refine ⟨hr, h.m.but hb h.ne ?_, ?_, h.bel.trans (hb.below (Nat.le_of_lt h.r.blk.lt) ?_)⟩
  · rintro k hk rfl
    exact h.m.own.ne_blk h.r.blk (by decide) hk
  · intro k hk e
    rcases hv k hk with hv | ⟨x, hx, hxk⟩
    · have := h.m.own.lt k e; omega
    · have := h.r.blk.cell 0 (v := v) rfl
      rw [hx] at this
      injection this with this
      subst this
      exact h.sep k hxk e
  · rintro k rfl
    exact Nat.le_refl _
theorem RB.next2 (h : RB W2 W rb mb v tp u l m br bm) (hm : IsRr W' rb mb u' m' bm') (hb : But (fun k => k = mb) W W') (hv : NV W mb u') : RB W2 W' rb mb v tp u' l m' br bm' := by
  refine ⟨h.r.but hb (fun e => h.ne e.symm) ?_ ?_, hm, ?_, h.bel.trans (hb.below (Nat.le_of_lt h.r.blk.lt) ?_)⟩
  · rintro k hk rfl
    exact h.r.own.ne_blk h.m.blk (by decide) hk
  · rintro a ha e
    obtain ⟨tb, rfl, ht⟩ := h.r.tab a ha
    exact blk_ne ht h.m.blk (by decide) e
  · intro k hk e
    rcases hv k e with hv | ⟨x, hx, hxk⟩
    · have := h.r.own.lt k hk; omega
    · have := h.m.blk.cell 0 (v := u) rfl
      rw [hx] at this
      injection this with this
      subst this
      exact h.sep k hk hxk
  · rintro k rfl
    exact h.m.hB
/-- Next, of the one and of the other, in whatever state. -/
theorem RB.call1 (h : RB W2 W rb mb v tp u l m br bm) (hl : br = true → l = []) (hlm : l.length ≤ 140737488355328) (hh d : Bool) (f : Fd) (p : PD) (r : List Nat) (hf : f = if br then .broken else findP l hh d) (hp : p = if br then {} else pduP l hh d) (hr : r = if br then [] else restP l hh d) :
    Calls Try.prog 16 #[.pointer (some ⟨rb, 0, none⟩), .bool hh, .bool d] W fun e W' => ∃ aa ac da dc v' tp', e = .returned (.tuple #[.agg (pdC p aa ac da dc), .int .i64 (f.code : Nat)]) ∧ IsBytes W' aa p.ahs ∧ IsBytes W' da p.data ∧ RB W2 W' rb mb v' tp' u r m (f == .broken) bm ∧ But (fun k => k = rb) W W' := by
  cases br with
  | true =>
    simp only [if_true] at hf hp hr
    subst hf hp hr
    refine (next_broken h.r hh d).mono ?_
    rintro e W' ⟨rfl, hb⟩
    have hl' := hl rfl
    subst hl'
    exact ⟨none, 0, none, 0, v, tp, rfl, ⟨by simp, .inl rfl⟩, ⟨by simp, .inl rfl⟩, h.below hb, But.of_below hb (Nat.le_refl _)⟩
  | false =>
    simp only [Bool.false_eq_true, if_false] at hf hp hr
    subst hf hp hr
    refine (next_any h.r (Nat.le_of_lt h.r.blk.lt) hlm hh d).mono ?_
    rintro e W' ⟨cs, v', tp', rfl, ⟨aa, ac, da, dc, rfl, h1, h2, -, -⟩, h3, h4, h5⟩
    exact ⟨aa, ac, da, dc, v', tp', rfl, h1, h2, h.next1 h3 h4 h5, h4⟩
theorem RB.call2 (h : RB W2 W rb mb v tp u l m br bm) (hl : bm = true → m = []) (hlm : m.length ≤ 140737488355328) (hh d : Bool) (f : Fd) (p : PD) (r : List Nat) (hf : f = if bm then .broken else findP m hh d) (hp : p = if bm then {} else pduP m hh d) (hr : r = if bm then [] else restP m hh d) :
    Calls Try.prog 17 #[.pointer (some ⟨mb, 0, none⟩), .bool hh, .bool d] W fun e W' => ∃ aa ac da dc u', e = .returned (.tuple #[.agg (pdC p aa ac da dc), .int .i64 (f.code : Nat)]) ∧ IsBytes W' aa p.ahs ∧ IsBytes W' da p.data ∧ RB W2 W' rb mb v tp u' l r br (f == .broken) ∧ But (fun k => k = mb) W W' := by
  cases bm with
  | true =>
    simp only [if_true] at hf hp hr
    subst hf hp hr
    refine (nextR_broken h.m hh d).mono ?_
    rintro e W' ⟨rfl, hb⟩
    have hl' := hl rfl
    subst hl'
    exact ⟨none, 0, none, 0, u, rfl, ⟨by simp, .inl rfl⟩, ⟨by simp, .inl rfl⟩, h.below hb, But.of_below hb (Nat.le_refl _)⟩
  | false =>
    simp only [Bool.false_eq_true, if_false] at hf hp hr
    subst hf hp hr
    refine (nextR_any h.m (Nat.le_of_lt h.r.blk.lt) hlm hh d).mono ?_
    rintro e W' ⟨cs, u', rfl, ⟨aa, ac, da, dc, rfl, h1, h2, -, -⟩, h3, h4, h5⟩
    exact ⟨aa, ac, da, dc, u', rfl, h1, h2, h.next2 h3 h4 h5, h4⟩
end
/-- The strings that came in. -/
structure StrsIn (w : World) (a : Option Addr) (ss : List ByteArray) : Prop where
  size : ∀ i, i < ss.length → (ss.getD i .empty).size ≤ 140737488351232
  at_ : ss = [] ∨ ∃ b off, a = some ⟨b, off, none⟩ ∧ b < w.heap.size ∧ ∀ i, i < ss.length → w.cell? ⟨b, off + i, none⟩ = some (.string (ss.getD i .empty))
theorem StrsIn.below {w w' : World} {a : Option Addr} {ss : List ByteArray} (h : StrsIn w a ss) (hb : Below w.heap.size w w') : StrsIn w' a ss := by
  refine ⟨h.size, h.at_.imp id ?_⟩
  rintro ⟨b, off, rfl, hlt, hr⟩
  exact ⟨b, off, rfl, Nat.lt_of_lt_of_le hlt hb.size, fun i hi => (hb.cell (p := ⟨b, off + i, none⟩) hlt).trans (hr i hi)⟩
theorem rdv_strs {w : World} {v : Value} {d : D} (h : RdV Try.prog w 33 v d) : ∃ a cap ss, v = .slice a (List.length ss) cap ∧ ss.length ≤ cap ∧ cap ≤ 140737488351232 ∧ StrsIn w a ss := by
  have hce : Try.prog.cellsOf 9 = 1 := by kernel_rfl
  have hby : Try.prog.bytesOf 9 = 16 := by kernel_rfl
  obtain ⟨a, len, cap, rows, rfl, h1, h2, h3, h4, hlen, hrd, hat⟩ := h.rows Try.underlying33 (by rw [hce]; decide)
  rw [hce] at hlen hat
  rw [hby] at h3
  unfold reachBytes at h3
  have key : ∀ i, i < len → ∃ s : ByteArray, rows i = [.string s] ∧ s.size ≤ 140737488351232 := by
    intro i hi
    obtain ⟨d, hd⟩ := hrd i hi
    obtain ⟨x, hx, -, hs⟩ := hd.string_inv Try.underlying9
    exact ⟨x, hx, hs⟩
  obtain ⟨ss, hss, hsr⟩ := choose_list key
  subst hss
  have eg : ∀ i, i < ss.length → ss[i]? = some (ss.getD i .empty) := fun i hi => by rw [List.getD_eq_getElem?_getD, List.getElem?_eq_getElem hi]; rfl
  refine ⟨a, cap, ss, rfl, h1, by omega, ⟨fun i hi => (hsr i _ (eg i hi)).2, ?_⟩⟩
  rcases hat with h0 | ⟨b, off, rfl, hlt, hc⟩
  · left; exact List.length_eq_zero_iff.1 h0
  · refine .inr ⟨b, off, rfl, hlt (by decide), fun i hi => ?_⟩
    have := hc i hi 0 (by decide)
    rw [(hsr i _ (eg i hi)).1, Nat.mul_one, Nat.add_zero] at this
    exact this
/-- How many bytes wait. -/
def waits (W : World) (rb : Nat) : Nat := match W.cell? ⟨rb, 0, none⟩ with
  | some (.slice _ n _) => n
  | _ => 0
theorem waits_eq {W : World} {B rb : Nat} {v : Value} {tp : Option Addr} {l : List Nat} {br : Bool} (h : IsRd W B rb v tp l br) : waits W rb = l.length := by
  obtain ⟨a, c, rfl, -⟩ := h.own.form
  unfold waits
  rw [h.blk.cell 0 (v := .slice a l.length c) rfl]
/-- What goes on leaves fewer bytes. -/
theorem rest_less (l : List Nat) (h d : Bool) (hf : findP l h d = .whole ∨ findP l h d = .bad) : (restP l h d).length < l.length := by
  have h48 : ¬ l.length < 48 := by
    intro hl
    have : findP l h d = .nothing := by unfold findP; rw [if_pos hl]
    rcases hf with hf | hf <;> rw [this] at hf <;> cases hf
  have e : restP l h d = l.drop (endN l h d) := by
    unfold restP
    rcases hf with hf | hf <;> rw [hf]
  rw [e, List.length_drop]
  have : 48 ≤ endN l h d := by unfold endN atN; omega
  omega

theorem bytes_not {w : World} {a : Option Addr} {l : List Nat} {b : Nat} {x : Option Addr} {y z : Nat} {br : Bool} {t : TypeId} (hl : IsBytes w a l) (hb : IsBlk w b #[.slice x y z, .bool br] t) : ∀ q, a = some q → l ≠ [] → ¬ (q.block = b) := by
  rintro q rfl hne e
  obtain ⟨b', off, hq, hc⟩ := hl.2.resolve_left hne
  injection hq with hq
  subst hq
  simp only at e
  subst e
  have h0 := hc 0 (by cases l with
    | nil => exact absurd rfl hne
    | cons _ _ => simp)
  have hb' : w.heap[b']? = some (.cells #[.slice x y z, .bool br] t) := hb
  unfold World.cell? at h0
  rw [hb'] at h0
  rcases off with _ | _ | off
  · simp at h0
  · simp at h0
  · simp at h0
set_option maxRecDepth 100000 in
set_option maxHeartbeats 8000000 in
theorem reads_walk (v0 v1 v2 : Value) (D0 D1 D2 : D) (w : World) (r0 : RdV Try.prog w 33 v0 D0) (r1 : RdV Try.prog w 4 v1 D1) (r2 : RdV Try.prog w 4 v2 D2) :
    Calls Try.prog 4 #[v0, v1, v2] w fun e w' => e = .returned (.bool true) ∧ Below w.heap.size w w' := by
  obtain ⟨a, cap, ss, rfl, hlc, hcap, hss⟩ := rdv_strs r0
  obtain ⟨h, rfl, -⟩ := r1.bool Try.underlying4
  obtain ⟨d, rfl, -⟩ := r2.bool Try.underlying4
  clear r0 r1 r2
  obtain ⟨n, hn⟩ : ∃ n, ss.length = n := ⟨_, rfl⟩
  rw [hn] at hlc ⊢
  have HP0 := Lib.hid (And.intro hss hn)
  clear hss hn
  go_enter Try.func4, Try.ntmps4
  go_wp2_with fail
  refine (stands_any _).mono ?_
  rintro e W2 ⟨rfl, hb2⟩
  have HP2 := Lib.hid (And.intro (HP0.out.1.below hb2) hb2)
  clear hb2
  obtain ⟨W3, hW3⟩ : ∃ W, (W2.alloc (.cells #[.slice none 0 0, .bool false, .pointer none] 37)).alloc (.cells #[.slice none 0 0, .bool false] 40) = W := ⟨_, rfl⟩
  have hrb : RB W2 W3 W2.heap.size (W2.heap.size + 1) (.slice none 0 0) none (.slice none 0 0) [] [] false false := by
    have hk := IsBlk.new (W2.alloc (.cells #[.slice none 0 0, .bool false, .pointer none] 37)) #[.slice none 0 0, .bool false] 40
    rw [World.size_alloc] at hk
    rw [← hW3]
    exact ⟨(rd_new W2).below ((Below.refl _ _).alloc (Nat.le_refl _) _), ⟨hk, Own.nil _ _, by omega⟩, fun k hk => by simp [Value.ownBlock] at hk, ((Below.refl _ _).alloc (Nat.le_refl _) _).alloc (by simp) _⟩
  have HR0 := Lib.hid hrb
  clear hrb
  go_upto_region 4 with fail
  clear hW3
  obtain ⟨rb, hrb⟩ : ∃ rb, W2.heap.size = rb := ⟨_, rfl⟩
  rw [hrb] at HR0 ⊢
  obtain ⟨mb, hmb⟩ : ∃ mb, rb + 1 = mb := ⟨_, rfl⟩
  rw [hmb] at HR0 ⊢
  have HW := Lib.hid (And.intro hrb HP2.out.2.size)
  clear hrb hmb
  go_wp2_with fail
  go_loopw [9, 24] (fun q i wr => ∃ (k T : Nat) (v : Value) (tp : Option Addr) (u : Value) (l : List Nat) (br : Bool), k ≤ n ∧ q = .int .i64 T ∧ i = .int .i64 k ∧ T ≤ 20000 ∧ l.length ≤ T ∧ (br = true → l = []) ∧ RB W2 wr rb mb v tp u l l br br) (fun _ i _ => n - (intOf i).toNat)
  case atStart => exact ⟨0, 0, _, _, _, [], false, by omega, rfl, rfl, by omega, by simp, (fun h => rfl), HR0.out⟩
  case round =>
    obtain ⟨k, T, v, tp, u, l, br, hk, rfl, rfl, hT, hlT, hlb, hRB⟩ := hrel
    have hend : Below w.heap.size w wr := by
      have h1 := HW.out.1
      have h2 := hRB.bel
      rw [← h1] at h2
      exact HP2.out.2.trans (h2.mono HW.out.2)
    by_cases hlt : k < n
    · have hsr := HP2.out.1.below (w' := wr) (by have h1 := HW.out.1; rw [h1]; exact hRB.bel)
      have hn := HP0.out.2
      obtain ⟨b, off, rfl, hbl, hcell⟩ := hsr.at_.resolve_left (by intro h0; rw [h0] at hn; simp at hn; omega)
      have hck := hcell k (by omega)
      have hsz := hsr.size k (by omega)
      obtain ⟨s, hs⟩ : ∃ s, s = ss.getD k .empty := ⟨_, rfl⟩
      rw [← hs] at hck hsz
      obtain ⟨T1, hT1⟩ : ∃ T1 : Nat, (T : Int) + (s.size : Int) = (T1 : Int) := ⟨T + s.size, by omega⟩
      have hT2 : T1 = T + s.size := by omega
      have HRB0 := Lib.hid (And.intro hRB (And.intro hlb (And.intro hend (And.intro hT2 hlT))))
      clear hRB hlb hend hsr hcell hs hn hT2 hlT hbl
      have z1 : (k : Int) < (n : Int) := by omega
      by_cases hq : k = 200 ∨ 20000 < T1
      · rcases hq with rfl | hq
        · go_wp2_with fail
          go_ret
          exact ⟨rfl, HRB0.out.2.2.1⟩
        · by_cases hk2 : k = 200
          · subst hk2
            go_wp2_with fail
            go_ret
            exact ⟨rfl, HRB0.out.2.2.1⟩
          · have g0 : ((k : Int) == 200) = false := by simp; omega
            have g1 : decide ((20000 : Int) < (T1 : Int)) = true := by simp; omega
            have g2 : decide (20000 < T1) = true := by simp; omega
            clear hk2 hq
            go_wp2_with fail
            go_ret
            exact ⟨rfl, HRB0.out.2.2.1⟩
      · have g0 : ((k : Int) == 200) = false := by simp; omega
        have g1 : decide ((20000 : Int) < (T1 : Int)) = false := by simp; omega
        have g2 : decide (20000 < T1) = false := by simp; omega
        have hTq : T1 ≤ 20000 := by omega
        obtain ⟨l2, hl2⟩ : ∃ l2, l2 = if br then [] else l ++ byB s := ⟨_, rfl⟩
        have hlen2 : l2.length ≤ T1 := by
          rw [hl2]
          have h1 := HRB0.out.2.2.2
          split
          · simp
          · rw [List.length_append, byB_length]; omega
        have hl2b : br = true → l2 = [] := fun h => by rw [hl2, if_pos h]
        have HL2 := Lib.hid (And.intro hl2 (And.intro hlen2 hl2b))
        clear hl2 hlen2 hl2b hq
        go_upto_region 11 with fail
        clear g0 g1 g2 hck
        go_cut [] (fun wx => ∃ v' , RB W2 wx rb mb v' tp u l2 l br br)
        case first =>
         as_aux_lemma =>
          go_wp2_with fail
          cases br with
          | false =>
            refine (feed_mv HRB0.out.1.r s (by have := HRB0.out.2.2.2; omega) (Nat.le_of_lt HRB0.out.1.r.blk.lt)).mono ?_
            rintro e1 Wa ⟨rfl, v', hr', hbt, hmv⟩
            have HA := Lib.hid (HRB0.out.1.feed hr' hbt hmv)
            clear hr' hbt hmv
            go_wp2_with fail
            go_meet
            have := HL2.out.1
            simp only [Bool.false_eq_true, if_false] at this
            rw [this]
            exact ⟨v', HA.out⟩
          | true =>
            refine (feed_broken HRB0.out.1.r s).mono ?_
            rintro e1 Wa ⟨rfl, rfl⟩
            go_wp2_with fail
            go_meet
            have h1 := HL2.out.2.2 (by first | rfl | trivial)
            have h2 := HRB0.out.2.1 (by first | rfl | trivial)
            have h3 := HRB0.out.1
            rw [h1]
            rw [h2] at h3 ⊢
            exact ⟨v, h3⟩
        case rest =>
          obtain ⟨v1, hRB1⟩ := hcut
          have HRB1 := Lib.hid hRB1
          clear hRB1
          have c1 := HRB1.out.m.blk.cell 1 (v := .bool br) rfl
          go_upto_if 46 with fail
          clear c1
          go_cut [] (fun wx => ∃ u', RB W2 wx rb mb v1 tp u' l2 l2 br br)
          case first =>
           as_aux_lemma =>
            cases br with
            | false =>
              have c0 := HRB1.out.m.blk.cell 0 (v := u) rfl
              go_wp2_with (at_builtin; refine wpList_appM rfl (.tmp 51) (.tmp 52) rfl rb u l rfl HRB1.out.m.own s rfl (by have := HRB0.out.2.2.2; omega) (Nat.le_of_lt HRB1.out.r.blk.lt) ?_; intro u' w1 ho hb hg hv; obtain ⟨va, vn, vc, rfl, hvn⟩ := ho.slice; have k1 := HRB1.out.m.blk.grown hg HRB1.out.m.ne; have d0 := k1.cell 0 (v := u) rfl; have fz1 := k1.fz; have HG := Lib.hid (And.intro ho (And.intro hg hv)); clear ho hb hg k1 hv hvn)
              go_meet
              have h1 := HL2.out.1
              simp only [Bool.false_eq_true, if_false] at h1
              have h2 := HRB1.out.app HG.out.1 HG.out.2.1 HG.out.2.2
              rw [← h1] at h2
              exact ⟨_, h2⟩
            | true =>
              go_wp2_with fail
              go_meet
              have h1 := HL2.out.2.2 (by first | rfl | trivial)
              have h2 := HRB0.out.2.1 (by first | rfl | trivial)
              have h3 := HRB1.out
              rw [h1] at h3 ⊢
              rw [h2] at h3
              exact ⟨u, h3⟩
          case rest =>
            obtain ⟨u1, hRB2⟩ := hcut
            have HRB2 := Lib.hid hRB2
            clear hRB2 HRB1
            go_wp2_with fail
            go_loopw [12] (fun _ wx => ∃ (v : Value) (tp : Option Addr) (u : Value) (l : List Nat) (br : Bool), RB W2 wx rb mb v tp u l l br br ∧ l.length ≤ T1 ∧ (br = true → l = [])) (fun _ wx => waits wx rb)
            case atStart => exact ⟨v1, tp, u1, l2, br, HRB2.out, HL2.out.2.1, HL2.out.2.2⟩
            case round =>
              clear HRB2
              obtain ⟨v3, tp3, u3, l3, br3, hRB3, hl3, hlb3⟩ := hrel
              obtain ⟨f, hf⟩ : ∃ f, f = if br3 then Fd.broken else findP l3 h d := ⟨_, rfl⟩
              obtain ⟨p, hp⟩ : ∃ p, p = if br3 then ({} : PD) else pduP l3 h d := ⟨_, rfl⟩
              obtain ⟨r, hr⟩ : ∃ r, r = if br3 then ([] : List Nat) else restP l3 h d := ⟨_, rfl⟩
              obtain ⟨c, hc⟩ : ∃ c : Int, ((f.code : Nat) : Int) = c := ⟨_, rfl⟩
              have HC1 := Lib.hid (hRB3.call1 hlb3 (by omega) h d f p r hf hp hr)
              have HC2 := Lib.hid (fun (W : World) (v4 : Value) (tp4 : Option Addr) (hb : RB W2 W rb mb v4 tp4 u3 r l3 (f == .broken) br3) => hb.call2 hlb3 (by omega) h d f p r hf hp hr)
              have hbk : (f == Fd.broken) = true → r = [] := fun hb => by
                rw [hr]
                cases br3 with
                | true => rfl
                | false =>
                  simp only [Bool.false_eq_true, if_false] at hf ⊢
                  rw [hf] at hb
                  have : findP l3 h d = .broken := by simpa using hb
                  exact (broken_told this).2
              have hrl : r.length ≤ l3.length := by
                rw [hr]
                cases br3 with
                | true => simp
                | false =>
                  simp only [Bool.false_eq_true, if_false]
                  unfold restP
                  split <;> simp
              have hless : (f = .whole ∨ f = .bad) → r.length < l3.length := fun hw => by
                cases br3 with
                | true =>
                  simp only [if_true] at hf
                  rcases hw with hw | hw <;> rw [hf] at hw <;> cases hw
                | false =>
                  simp only [Bool.false_eq_true, if_false] at hf hr
                  rw [hr]
                  rw [hf] at hw
                  exact rest_less l3 h d hw
              have hwt := waits_eq hRB3.r
              have HCO := Lib.hid hc
              have HR3 := Lib.hid (And.intro hRB3 (And.intro hl3 (And.intro hlb3 (And.intro hbk (And.intro hrl (And.intro hless hwt))))))
              clear hRB3 hl3 hlb3 hf hp hr hc hbk hrl hless hwt
              go_wp2_with fail
              refine HC1.out.mono ?_
              rintro e1 Wa ⟨aa, ac, da, dc, v4, tp4, rfl, ha1, hd1, hb4, -⟩
              rw [HCO.out]
              have HA := Lib.hid (And.intro hb4 (And.intro ha1 hd1))
              clear ha1 hd1 hb4 HC1
              go_upto_region 15 with (refine store_pb (by rfl) (.tmp 12) (.tmp 61) (by rfl) Wa (by rfl) (by rfl) p aa ac da dc (by rfl) ?_; intro Wb hbb hkb; have HB := Lib.hid (And.intro (HA.out.1.below hbb) (And.intro (HA.out.2.1.of_below hbb) (And.intro (HA.out.2.2.of_below hbb) hkb))); clear hbb hkb)
              have HC2b := Lib.hid (HC2.out _ _ _ HB.out.1)
              go_wp2_with fail
              refine HC2b.out.mono ?_
              rintro e1 Wc ⟨aa2, ac2, da2, dc2, u4, rfl, ha2, hd2, hb5, hbt⟩
              rw [HCO.out]
              have hHC : IsBytes Wc aa p.ahs ∧ IsBytes Wc da p.data ∧ IsBlk Wc Wa.heap.size (pdC p aa ac da dc) 28 := by
                obtain ⟨x3, c3, hu3, -⟩ := HB.out.1.m.own.form
                have hmb := HB.out.1.m.blk
                rw [hu3] at hmb
                exact ⟨hbt.bytes HB.out.2.1 (bytes_not HB.out.2.1 hmb), hbt.bytes HB.out.2.2.1 (bytes_not HB.out.2.2.1 hmb), hbt.blk HB.out.2.2.2 (fun e => blk_ne HB.out.2.2.2 HB.out.1.m.blk (by decide) e)⟩
              obtain ⟨ua, uc, rfl, -⟩ := hb5.m.own.form
              have HD := Lib.hid (And.intro hb5 (And.intro ha2 (And.intro hd2 hHC)))
              clear ha2 hd2 hb5 hbt hHC HC2b HC2 HB HA
              go_upto_region 16 with (refine store_pb (by rfl) (.tmp 14) (.tmp 68) (by rfl) Wc (by rfl) (by rfl) p aa2 ac2 da2 dc2 (by rfl) ?_; intro We hbe hke; have HE := Lib.hid (And.intro hbe hke); clear hbe hke)
              have HRB := Lib.hid (HD.out.1.below HE.out.1)
              have HY := Lib.hid (And.intro (HD.out.2.2.2.1.of_below HE.out.1) (And.intro (HD.out.2.2.2.2.1.of_below HE.out.1) (And.intro (HD.out.2.1.of_below HE.out.1) (HD.out.2.2.1.of_below HE.out.1))))
              have HRW : Hid (∀ W, Below We.heap.size We W → W.rangeAt Wa.heap.size 0 (pdC p aa ac da dc).toList ∧ W.rangeAt Wc.heap.size 0 (pdC p aa2 ac2 da2 dc2).toList) := Lib.hid (fun W hw => by
                have k1 := HD.out.2.2.2.2.2.below HE.out.1 HD.out.2.2.2.2.2.lt
                exact ⟨(k1.below hw k1.lt).range, (HE.out.2.below hw HE.out.2.lt).range⟩)
              have HSA : Hid (∀ w', Below We.heap.size We w' → w'.cell? ⟨mb, 0, none⟩ = some (.slice ua r.length uc) ∧ Below We.heap.size We w') := Lib.hid (fun w' hw => ⟨(HRB.out.below hw).m.blk.cell 0 rfl, hw⟩)
              clear HD HE
              refine wp_region_held_drew (S := fun w' => w'.cell? ⟨mb, 0, none⟩ = some (.slice ua r.length uc) ∧ Below We.heap.size We w') (by kernel_rfl) (by exact HSA.out _ (Below.refl _ _).drew) (fun hHeld => ?_)
              refine wpAnyH_take (i := 0) (v := ?_) rfl (by kernel_rfl) (by kernel_rfl) (by kernel_rfl) (fun _ _ _ h => h) (Or.inl ⟨by rfl, ?_⟩) (by with_reducible assumption) ?_
              rotate_left
              · intro w hSw; (try dsimp only at hSw); (try go_split_ands); go_simp; (try with_reducible rfl)
              (try simp only [Act.put, List.getElem_toArray, List.getElem_cons_succ, List.getElem_cons_zero, List.setIfInBounds_toArray, List.set_cons_zero, List.set_cons_succ])
              refine wpAnyH_take (i := 1) (v := ?_) rfl (by kernel_rfl) (by kernel_rfl) (by kernel_rfl) (fun _ _ _ h => h) (Or.inl ⟨by rfl, ?_⟩) (by with_reducible assumption) ?_
              rotate_left
              · intro w hSw; (try dsimp only at hSw); (try go_split_ands); go_simp; (try with_reducible rfl)
              (try simp only [Act.put, List.getElem_toArray, List.getElem_cons_succ, List.getElem_cons_zero, List.setIfInBounds_toArray, List.set_cons_zero, List.set_cons_succ])
              refine wpAnyH_take (i := 2) (v := ?_) rfl (by kernel_rfl) (by kernel_rfl) (by kernel_rfl) (fun _ _ _ h => h) (Or.inl ⟨by rfl, ?_⟩) (by with_reducible assumption) ?_
              rotate_left
              · intro w hSw; (try dsimp only at hSw); (try go_split_ands); go_simp; (try with_reducible rfl)
              (try simp only [Act.put, List.getElem_toArray, List.getElem_cons_succ, List.getElem_cons_zero, List.setIfInBounds_toArray, List.set_cons_zero, List.set_cons_succ])
              refine wpAnyH_take (i := 3) (v := ?_) rfl (by kernel_rfl) (by kernel_rfl) (by kernel_rfl) (fun _ _ _ h => h) (Or.inl ⟨by rfl, ?_⟩) (by with_reducible assumption) ?_
              rotate_left
              · intro w hSw; (try dsimp only at hSw); (try go_split_ands); go_simp; (try with_reducible rfl)
              (try simp only [Act.put, List.getElem_toArray, List.getElem_cons_succ, List.getElem_cons_zero, List.setIfInBounds_toArray, List.set_cons_zero, List.set_cons_succ])
              refine wpAnyH_take (i := 4) (v := .agg (pdC p aa ac da dc).toList.toArray) rfl (by kernel_rfl) (by kernel_rfl) (by kernel_rfl) (fun _ _ _ h => h) (yieldsIf_load_mid (by rfl) 28 (.tmp 12) (by rfl) Wa.heap.size 0 (by rfl) (pdC p aa ac da dc).toList _ (fun w hS => (HRW.out w hS.2).1) Try.underlying28 rfl (by kernel_rfl)) (by with_reducible assumption) ?_
              (try simp only [Act.put, Array.toArray_toList, List.getElem_toArray, List.getElem_cons_succ, List.getElem_cons_zero, List.setIfInBounds_toArray, List.set_cons_zero, List.set_cons_succ])
              refine wpAnyH_take (i := 5) (v := .agg (pdC p aa2 ac2 da2 dc2).toList.toArray) rfl (by kernel_rfl) (by kernel_rfl) (by kernel_rfl) (fun _ _ _ h => h) (yieldsIf_load_mid (by rfl) 28 (.tmp 14) (by rfl) Wc.heap.size 0 (by rfl) (pdC p aa2 ac2 da2 dc2).toList _ (fun w hS => (HRW.out w hS.2).2) Try.underlying28 rfl (by kernel_rfl)) (by with_reducible assumption) ?_
              (try simp only [Act.put, Array.toArray_toList, List.getElem_toArray, List.getElem_cons_succ, List.getElem_cons_zero, List.setIfInBounds_toArray, List.set_cons_zero, List.set_cons_succ])
              refine wpAnyH_ready (rs := [6]) (by kernel_rfl) (by simp) ?_
              refine AllReadyH.cons rfl (fun K3 hK3 => ?_) AllReadyH.nil
              go_simp
              have hBel := Lib.hid hHeld.2
              go_at_call 18
              refine (same_pd p aa da aa2 da2 ac dc ac2 dc2 _ (HY.out.1.of_below hBel.out) (HY.out.2.1.of_below hBel.out) (HY.out.2.2.1.of_below hBel.out) (HY.out.2.2.2.of_below hBel.out)).mono ?_
              rintro e1 Wf ⟨rfl, hbf⟩
              have hBn := Lib.hid (hBel.out.trans (hbf.mono hBel.out.size))
              clear hbf hBel
              refine hK3.out _ _ (HSA.out _ hBn.out) (fun hHeld => ?_)
              clear hK3 K3
              (try simp only [Act.put, Array.toArray_toList, List.getElem_toArray, List.getElem_cons_succ, List.getElem_cons_zero, List.setIfInBounds_toArray, List.set_cons_zero, List.set_cons_succ])
              refine wpAnyH_take (i := 7) (v := ?_) rfl (by kernel_rfl) (by kernel_rfl) (by kernel_rfl) (fun _ _ _ h => h) (Or.inl ⟨by rfl, ?_⟩) (by with_reducible assumption) ?_
              rotate_left
              · intro w hSw; (try dsimp only at hSw); (try go_split_ands); go_simp; (try with_reducible rfl)
              (try simp only [Act.put, List.getElem_toArray, List.getElem_cons_succ, List.getElem_cons_zero, List.setIfInBounds_toArray, List.set_cons_zero, List.set_cons_succ])
              refine wpAnyH_take (i := 8) (v := ?_) rfl (by kernel_rfl) (by kernel_rfl) (by kernel_rfl) (fun _ _ _ h => h) (Or.inl ⟨by rfl, ?_⟩) (by with_reducible assumption) ?_
              rotate_left
              · intro w hSw; (try dsimp only at hSw); (try go_split_ands); go_simp; (try with_reducible rfl)
              (try simp only [Act.put, List.getElem_toArray, List.getElem_cons_succ, List.getElem_cons_zero, List.setIfInBounds_toArray, List.set_cons_zero, List.set_cons_succ])
              refine wpAnyH_take (i := 9) (v := ?_) rfl (by kernel_rfl) (by kernel_rfl) (by kernel_rfl) (fun _ _ _ h => h) (Or.inl ⟨by rfl, ?_⟩) (by with_reducible assumption) ?_
              rotate_left
              · intro w hSw; (try dsimp only at hSw); (try go_split_ands); go_simp; (try with_reducible rfl)
              (try simp only [Act.put, List.getElem_toArray, List.getElem_cons_succ, List.getElem_cons_zero, List.setIfInBounds_toArray, List.set_cons_zero, List.set_cons_succ])
              refine wpAnyH_take (i := 10) (v := ?_) rfl (by kernel_rfl) (by kernel_rfl) (by kernel_rfl) (fun _ _ _ h => h) (Or.inl ⟨by rfl, ?_⟩) (by with_reducible assumption) ?_
              rotate_left
              · intro w hSw; (try dsimp only at hSw); (try go_split_ands); go_simp; (try with_reducible rfl)
              (try simp only [Act.put, List.getElem_toArray, List.getElem_cons_succ, List.getElem_cons_zero, List.setIfInBounds_toArray, List.set_cons_zero, List.set_cons_succ])
              refine wpAnyH_take (i := 12) (v := ?_) rfl (by kernel_rfl) (by kernel_rfl) (by kernel_rfl) (fun _ _ _ h => h) (Or.inl ⟨by rfl, ?_⟩) (by with_reducible assumption) ?_
              rotate_left
              · intro w hSw; (try dsimp only at hSw); (try go_split_ands); go_simp; (try with_reducible rfl)
              (try simp only [Act.put, List.getElem_toArray, List.getElem_cons_succ, List.getElem_cons_zero, List.setIfInBounds_toArray, List.set_cons_zero, List.set_cons_succ])
              refine wpAnyH_take (i := 13) (v := ?_) rfl (by kernel_rfl) (by kernel_rfl) (by kernel_rfl) (fun _ _ _ h => h) (Or.inl ⟨by rfl, ?_⟩) (by with_reducible assumption) ?_
              rotate_left
              · intro w hSw; (try dsimp only at hSw); (try go_split_ands); go_simp; (try with_reducible rfl)
              (try simp only [Act.put, List.getElem_toArray, List.getElem_cons_succ, List.getElem_cons_zero, List.setIfInBounds_toArray, List.set_cons_zero, List.set_cons_succ])
              refine wpAnyH_take (i := 14) (v := ?_) rfl (by kernel_rfl) (by kernel_rfl) (by kernel_rfl) (fun _ _ _ h => h) (Or.inl ⟨by rfl, ?_⟩) (by with_reducible assumption) ?_
              rotate_left
              · intro w hSw; (try dsimp only at hSw); (try go_split_ands); go_simp; (try with_reducible rfl)
              (try simp only [Act.put, List.getElem_toArray, List.getElem_cons_succ, List.getElem_cons_zero, List.setIfInBounds_toArray, List.set_cons_zero, List.set_cons_succ])
              refine wpAnyH_take (i := 15) (v := ?_) rfl (by kernel_rfl) (by kernel_rfl) (by kernel_rfl) (fun _ _ _ h => h) (Or.inl ⟨by rfl, ?_⟩) (by with_reducible assumption) ?_
              rotate_left
              · intro w hSw; (try dsimp only at hSw); (try go_split_ands); go_simp; (try with_reducible rfl)
              (try simp only [Act.put, List.getElem_toArray, List.getElem_cons_succ, List.getElem_cons_zero, List.setIfInBounds_toArray, List.set_cons_zero, List.set_cons_succ])
              refine wpAnyH_take (i := 16) (v := ?_) rfl (by kernel_rfl) (by kernel_rfl) (by kernel_rfl) (fun _ _ _ h => h) (Or.inl ⟨by rfl, ?_⟩) (by with_reducible assumption) ?_
              rotate_left
              · intro w hSw; (try dsimp only at hSw); (try go_split_ands); go_simp; (try with_reducible rfl)
              (try simp only [Act.put, List.getElem_toArray, List.getElem_cons_succ, List.getElem_cons_zero, List.setIfInBounds_toArray, List.set_cons_zero, List.set_cons_succ])
              refine wpAnyH_ready (rs := [11]) (by kernel_rfl) (by simp) ?_
              refine AllReadyH.cons rfl (fun K3 hK3 => ?_) AllReadyH.nil
              go_simp
              go_at_call 19
              refine (left_any (HRB.out.below hBn.out).r r.length rfl).mono ?_
              rintro e1 Wg ⟨rfl, rfl⟩
              refine hK3.out _ _ (HSA.out _ hBn.out) (fun hHeld => ?_)
              clear hK3 K3
              (try simp only [Act.put, Array.toArray_toList, List.getElem_toArray, List.getElem_cons_succ, List.getElem_cons_zero, List.setIfInBounds_toArray, List.set_cons_zero, List.set_cons_succ])
              refine wpAnyH_take (i := 17) (v := ?_) rfl (by kernel_rfl) (by kernel_rfl) (by kernel_rfl) (fun _ _ _ h => h) (Or.inl ⟨by rfl, ?_⟩) (by with_reducible assumption) ?_
              rotate_left
              · intro w hSw; (try dsimp only at hSw); (try go_split_ands); go_simp; (try with_reducible rfl)
              (try simp only [Act.put, List.getElem_toArray, List.getElem_cons_succ, List.getElem_cons_zero, List.setIfInBounds_toArray, List.set_cons_zero, List.set_cons_succ])
              refine wpAnyH_take (i := 18) (v := ?_) rfl (by kernel_rfl) (by kernel_rfl) (by kernel_rfl) (fun _ _ _ h => h) (Or.inl ⟨by rfl, ?_⟩) (by with_reducible assumption) ?_
              rotate_left
              · intro w hSw; (try dsimp only at hSw); (try go_split_ands); go_simp; (try with_reducible rfl)
              (try simp only [Act.put, List.getElem_toArray, List.getElem_cons_succ, List.getElem_cons_zero, List.setIfInBounds_toArray, List.set_cons_zero, List.set_cons_succ])
              refine wpAnyH_done (by kernel_rfl) ?_ _
              clear hHeld
              have HRG := Lib.hid (HRB.out.below hBn.out)
              clear hBn HSA HRW HY HRB
              have hc := HCO.out
              cases f with
              | nothing =>
                obtain rfl : c = 0 := hc.symm
                clear hc
                go_wp2_with fail
                go_roundw
                case rel => exact ⟨k + 1, T1, v4, tp4, _, r, false, by omega, rfl, by go_num, hTq, by have h1 := HR3.out.2.1; have h2 := HR3.out.2.2.2.2.1; omega, (fun h => by cases h), HRG.out⟩
                case measure => simp [intOf]; omega
              | broken =>
                obtain rfl : c = 3 := hc.symm
                clear hc
                go_wp2_with fail
                go_roundw
                case rel => exact ⟨k + 1, T1, v4, tp4, _, r, true, by omega, rfl, by go_num, hTq, by have h1 := HR3.out.2.1; have h2 := HR3.out.2.2.2.2.1; omega, (fun _ => HR3.out.2.2.2.1 rfl), HRG.out⟩
                case measure => simp [intOf]; omega
              | bad =>
                obtain rfl : c = 2 := hc.symm
                clear hc
                go_wp2_with fail
                go_roundw
                case rel => exact ⟨v4, tp4, _, r, false, HRG.out, by have h1 := HR3.out.2.1; have h2 := HR3.out.2.2.2.2.1; omega, fun h => by cases h⟩
                case measure =>
                  show waits _ _ < waits _ _
                  rw [waits_eq HRG.out.r, HR3.out.2.2.2.2.2.2]
                  exact HR3.out.2.2.2.2.2.1 (.inr rfl)
              | whole =>
                obtain rfl : c = 1 := hc.symm
                clear hc
                go_wp2_with fail
                go_roundw
                case rel => exact ⟨v4, tp4, _, r, false, HRG.out, by have h1 := HR3.out.2.1; have h2 := HR3.out.2.2.2.2.1; omega, fun h => by cases h⟩
                case measure =>
                  show waits _ _ < waits _ _
                  rw [waits_eq HRG.out.r, HR3.out.2.2.2.2.2.2]
                  exact HR3.out.2.2.2.2.2.1 (.inl rfl)
    · obtain rfl : k = n := by omega
      have HE := Lib.hid hend
      clear hRB hend hlb
      go_wp2_with fail
      go_ret
      exact ⟨rfl, HE.out⟩
end Go.Proofs.Ytaehaclmagnncaa
