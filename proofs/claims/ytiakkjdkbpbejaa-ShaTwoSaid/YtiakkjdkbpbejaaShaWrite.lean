/-
  sha: a hash in memory; Write.
-/
import Derived.Test.YtiakkjdkbpbejaaShaBlock
import Derived.Deep.LoopGhost
namespace Go.Proofs.Ytiakkjdkbpbejaa
set_option linter.unusedVariables false
set_option linter.unusedSimpArgs false
open Go.RowKit
attribute [local go_sem ↓] Go.wp_at_zero Go.wp_at_succ

/-- Eight numbers of 32 bits. -/
structure H8 (h : List Nat) : Prop where
  len : h.length = 8
  lt : ∀ i, h.getD i 0 < 4294967296
theorem H8.start : H8 h8 := ⟨rfl, fun i => by
  have h : ∀ c ∈ h8, c < 4294967296 := by decide
  by_cases hi : i < h8.length
  · exact h _ (by simp [List.getD, List.getElem?_eq_getElem hi])
  · simp [List.getD, List.getElem?_eq_none (show h8.length ≤ i by omega)]⟩
theorem H8.comp (h p : List Nat) : H8 (comp h p) := by
  refine ⟨by rw [comp_rst]; simp [addTo], fun i => ?_⟩
  rw [comp_rst]
  unfold addTo
  by_cases hi : i < 8
  · simp [List.getD, hi]; omega
  · simp [List.getD, List.getElem?_eq_none, hi]
theorem H8.feed {h : List Nat} (hh : H8 h) (l : List Nat) : H8 (feed h l).1 := by
  induction hn : l.length using Nat.strongRecOn generalizing h l with
  | _ n ih =>
    by_cases hl : 64 ≤ l.length
    · rw [feed_long h l hl]
      exact ih (l.drop 64).length (by simp; omega) (H8.comp h _) _ rfl
    · rw [feed_short h l (by omega)]; exact hh
theorem hashC_size (h : List Nat) (v : Value) (n : Nat) : (hashC h v n).size = h.length + 2 := by simp [hashC, nv_size]
theorem hashC_rest (h : List Nat) (v : Value) (n : Nat) (hh : h.length = 8) : (hashC h v n)[8]? = some v := by
  unfold hashC
  rw [Array.getElem?_push, if_neg (by simp [nv_size]; omega), Array.getElem?_push, if_pos (by simp [nv_size]; omega)]
theorem hashC_n (h : List Nat) (v : Value) (n : Nat) (hh : h.length = 8) : (hashC h v n)[9]? = some (.int .u64 (n : Int)) := by
  unfold hashC
  rw [Array.getElem?_push, if_pos (by simp [nv_size]; omega)]
theorem hashC_setRest (h : List Nat) (v u : Value) (n : Nat) (hh : h.length = 8) : (hashC h v n).setIfInBounds 8 u = hashC h u n := by
  obtain ⟨h0, h1, h2, h3, h4, h5, h6, h7, rfl⟩ := list8 h hh
  rfl
theorem hashC_setN (h : List Nat) (v : Value) (n m : Nat) (hh : h.length = 8) : (hashC h v n).setIfInBounds 9 (.int .u64 (m : Int)) = hashC h v m := by
  obtain ⟨h0, h1, h2, h3, h4, h5, h6, h7, rfl⟩ := list8 h hh
  rfl

/-- A hash at block hb; the bytes that wait in the value v. -/
structure IsHash (w : World) (base hb : Nat) (v : Value) (h rest : List Nat) (n : Nat) : Prop where
  blk : IsBlk w hb (hashC h v n) 42
  own : Own w base v rest
  ne : v.ownBlock ≠ some hb
  hfb : base ≤ hb
  h8 : H8 h
/-- The blocks that Write may turn. -/
def HashS (hb : Nat) (v : Value) : Nat → Prop := fun k => k = hb ∨ v.ownBlock = some k
theorem IsHash.but {w w' : World} {base hb : Nat} {v : Value} {h rest : List Nat} {n : Nat} {S : Nat → Prop} (hi : IsHash w base hb v h rest n) (hb' : But S w w') (h1 : ¬ S hb) (h2 : ∀ k, v.ownBlock = some k → ¬ S k) : IsHash w' base hb v h rest n :=
  ⟨hb'.blk hi.blk h1, hb'.own hi.own h2, hi.ne, hi.hfb, hi.h8⟩

theorem blockIs (w : World) (hb : Nat) (h : List Nat) (v : Value) (n : Nat) (a : Option Addr) (p : List Nat) (cap : Nat) (hk : IsBlk w hb (hashC h v n) 42) (hp : IsBytes w a p) (hl : p.length = 64) (hh : H8 h) :
    Calls Try.prog 15 #[.pointer (some ⟨hb, 0, none⟩), .slice a 64 cap] w fun e w' => e = .returned (.tuple #[]) ∧ IsBlk w' hb (hashC (comp h p) v n) 42 ∧ But (fun k => k = hb) w w' :=
  block_any hb h v n a p cap w hk hp hl hh.len hh.lt

theorem isBytes_take {w : World} {a : Option Addr} {l : List Nat} (h : IsBytes w a l) (k : Nat) (hk : 0 < k) (hl : k ≤ l.length) : IsBytes w a (l.take k) := by
  refine ⟨fun c hc => h.1 c (List.mem_of_mem_take hc), .inr ?_⟩
  obtain ⟨b, off, rfl, hc⟩ := h.2.resolve_left (by rintro rfl; simp at hl; omega)
  refine ⟨b, off, rfl, fun i hi => ?_⟩
  rw [List.length_take] at hi
  rw [hc i (by omega)]
  simp [List.getD, List.getElem?_take, show i < k by omega]
theorem isBytes_drop {w : World} {g : Nat} {l : List Nat} (h : IsBytes w (some ⟨g, 0, none⟩) l) (k : Nat) : IsBytes w (some ⟨g, k, none⟩) (l.drop k) := by
  refine ⟨fun c hc => h.1 c (List.mem_of_mem_drop hc), ?_⟩
  by_cases hl : l.length ≤ k
  · exact .inl (List.drop_of_length_le hl)
  · obtain ⟨b, off, he, hc⟩ := h.2.resolve_left (by rintro rfl; simp at hl)
    cases he
    refine .inr ⟨g, k, rfl, fun i hi => ?_⟩
    rw [List.length_drop] at hi
    have := hc (k + i) (by omega)
    rw [Nat.zero_add] at this
    rw [this]
    simp [List.getD, List.getElem?_drop]

set_option maxRecDepth 100000 in
set_option maxHeartbeats 4000000 in
theorem write_any (w : World) (base hb : Nat) (v : Value) (h rest : List Nat) (n : Nat) (A : Option Addr) (k c : Nat) (m : List Nat)
    (hi : IsHash w base hb v h rest n) (HL : Hid (k = m.length)) (hm : IsBytes w A m) (hc0 : A = none → c = 0) (hlen : rest.length + k ≤ 140737488355328) (hn : n < 18446744073709551616) (hbase : base ≤ w.heap.size)
    (hsep : ∀ x, A = some x → m ≠ [] → x.block ≠ hb) :
    Calls Try.prog 12 #[.pointer (some ⟨hb, 0, none⟩), .slice A k c] w fun e w' => e = .returned (.tuple #[]) ∧ ∃ v', IsHash w' base hb v' (feed h (rest ++ m)).1 (feed h (rest ++ m)).2 ((n + k) % 18446744073709551616) ∧ But (HashS hb v) w w' ∧
      (∀ j, v'.ownBlock = some j → v.ownBlock = some j ∨ w.heap.size ≤ j) := by
  obtain ⟨hblk, hown, hne, hfb, hh⟩ := hi
  have e8 := hblk.cell 8 (hashC_rest h v n hh.len)
  have e9 := hblk.cell 9 (hashC_n h v n hh.len)
  have hfz := hblk.fz
  have hlt := hblk.lt
  have HK1 := hblk.set 9 (.int .u64 (((n + k) % 18446744073709551616 : Nat) : Int))
  rw [hashC_setN h v n _ hh.len] at HK1
  have hb1 : But (fun j => j = hb) w (w.setCell ⟨hb, 9, none⟩ (.int .u64 (((n + k) % 18446744073709551616 : Nat) : Int))) := (But.refl (fun j => j = hb) w).setCell (p := ⟨hb, 9, none⟩) rfl _
  have HO1 := hb1.own hown (fun j hj e => hne (by rw [hj, e]))
  have HM1 := hb1.bytes hm (fun x hx he => hsep x hx he)
  obtain ⟨sa, scap, rfl, -, -, hcm, -⟩ := hown.form
  have HD := Lib.hid (And.intro HK1 (And.intro HO1 (And.intro HM1 (And.intro hb1 (And.intro hh (And.intro hne hown.capz))))))
  have HLE := Lib.hid (And.intro hlen (And.intro hbase (And.intro hfb hlt)))
  clear hblk hown hm HK1 HO1 HM1 hb1 hh hne
  unfold maxLen at hcm
  have hk6 : k < 9223372036854775808 := by omega
  have X : IntKind.u64.wrap ((n : Int) + (k : Int)) = (((n + k) % 18446744073709551616 : Nat) : Int) := by rw [IntKind.wrap_u64]; omega
  obtain ⟨n2, hn2⟩ : ∃ x, x = (n + k) % 18446744073709551616 := ⟨_, rfl⟩
  rw [← hn2] at X HD ⊢
  have HN := Lib.hid hn2
  clear hn2 hlen hbase
  go_enter Try.func12, Try.ntmps12
  go_wp2_with (first
    | (at_builtin; refine wpList_app' rfl (.tmp 20) (.tmp 21) rfl base (.slice sa rest.length scap) rest rfl HD.out.2.1 A k c m rfl HL.out HD.out.2.2.1 hc0 (by have := HL.out; have := HLE.out.1; omega) (by have := HLE.out.2.1; simp; omega) ?_; intro v1 w2 ho2 hb2 hg2 hv2; obtain ⟨a2, len2, cap2, rfl, hlen2⟩ := ho2.slice; have hk1 := HD.out.1.grown hg2 HD.out.2.2.2.2.2.1; have e8' := hk1.cell 8 (hashC_rest h _ n2 HD.out.2.2.2.2.1.len); have hfz1 := hk1.fz; have HQ := Lib.hid (And.intro ho2 (And.intro hb2 (And.intro hg2 (And.intro hv2 hk1)))); clear ho2 hb2 hg2 hv2 hk1))
  have hS : But (HashS hb (.slice sa rest.length scap)) w (w2.setCell ⟨hb, 8, none⟩ (.slice a2 len2 cap2)) :=
    (((HD.out.2.2.2.1.mono fun j hj => .inl hj).grown HQ.out.2.2.1 (fun j hj => .inr hj)).setCell (p := ⟨hb, 8, none⟩) (.inl rfl) _)
  have hk2 := HQ.out.2.2.2.2.set 8 (.slice a2 len2 cap2)
  rw [hashC_setRest h _ _ _ HD.out.2.2.2.2.1.len] at hk2
  have hv2 : ∀ j, (Value.slice a2 len2 cap2).ownBlock = some j → (Value.slice sa rest.length scap).ownBlock = some j ∨ w.heap.size ≤ j := by
    intro j hj
    rcases HQ.out.2.2.2.1 with hx | hx
    · left; rw [← hx]; exact hj
    · right; rw [hx] at hj; simp at hj; omega
  have hne2 : (Value.slice a2 len2 cap2).ownBlock ≠ some hb := by
    intro e
    rcases hv2 _ e with hx | hx
    · exact HD.out.2.2.2.2.2.1 hx
    · have := HLE.out.2.2.2; omega
  have hb3 : But (fun j => j = hb) w2 (w2.setCell ⟨hb, 8, none⟩ (.slice a2 len2 cap2)) := (But.refl (fun j => j = hb) w2).setCell (p := ⟨hb, 8, none⟩) rfl _
  have ho3 := hb3.own HQ.out.1 (fun j hj e => hne2 (by rw [hj, e]))
  have hsz2 : w.heap.size ≤ (w2.setCell ⟨hb, 8, none⟩ (.slice a2 len2 cap2)).heap.size := hS.size
  have hlm : (rest ++ m).length = rest.length + k := by rw [List.length_append, HL.out]
  have HR := Lib.hid (And.intro hS (And.intro hk2 (And.intro hv2 (And.intro hne2 (And.intro ho3 (And.intro HD.out.2.2.2.2.1 hlm))))))
  clear hS hk2 hv2 hne2 hb3 ho3 hsz2 hlm HQ e8 e9 e8' hfz1 hfz
  go_wp2
  generalize w2.setCell ⟨hb, 8, none⟩ (.slice a2 len2 cap2) = w3 at *
  go_loopg [25] (rest.length + k) (fun g s25 wr => ∃ (v : Value) (rs hs : List Nat), g = rs.length ∧ rs.length ≤ rest.length + k ∧ IsBlk wr hb (hashC hs v n2) 42 ∧ Own wr base v rs ∧ v.ownBlock ≠ some hb ∧ H8 hs ∧ feed hs rs = feed h (rest ++ m) ∧ But (HashS hb (.slice sa rest.length scap)) w wr ∧
    (∀ j, v.ownBlock = some j → (Value.slice sa rest.length scap).ownBlock = some j ∨ w.heap.size ≤ j))
  case atStart => exact ⟨_, _, _, HR.out.2.2.2.2.2.2.symm, by rw [HR.out.2.2.2.2.2.2]; exact Nat.le_refl _, HR.out.2.1, HR.out.2.2.2.2.1, HR.out.2.2.2.1, HR.out.2.2.2.2.2.1, rfl, HR.out.1, HR.out.2.2.1⟩
  case round =>
    clear HR
    obtain ⟨v, rs, hs, hg, hrs, hblk, hown, hne, hh, hfe, hbut, hv⟩ := hrel
    by_cases hlt : 64 ≤ rs.length
    · obtain ⟨gb, cap3, rfl, hbs, -, hgb, hgw, hcl, hcm3⟩ := hown.block (by rintro rfl; simp at hlt)
      unfold maxLen at hcm3
      have e8 := hblk.cell 8 (hashC_rest hs _ n2 hh.len)
      have hfe2 := feed_long hs rs hlt
      have ht64 : (rs.take 64).length = 64 := by simp; omega
      have hbt := isBytes_take hbs 64 (by omega) hlt
      have hgne : gb ≠ hb := fun e => hne (by rw [e]; rfl)
      have HG := Lib.hid (And.intro hblk (And.intro hbt (And.intro ht64 (And.intro hh (And.intro hbs (And.intro hbut (And.intro hv hfe2)))))))
      have HD2 : Hid ((rs.drop 64).length = rs.length - 64) := List.length_drop
      have HGN := Lib.hid hgne
      have HFE := Lib.hid hfe
      have HGK := Lib.hid hg
      have hws := hbut.size
      clear hblk hbs hown hh hbut hv hfe hfe2 ht64 hbt hne hgne hg
      by_cases hc64 : cap3 = 64
      case' pos =>
        have hl64 : rs.length = 64 := by omega
        subst hc64
        rw [hl64] at e8
        rw [hl64] at HG
        have HL64 := Lib.hid hl64
        clear hl64
        go_wp2_with (first
          | (go_at_call 15; refine (blockIs _ hb hs _ n2 _ (rs.take 64) _ HG.out.1 HG.out.2.1 HG.out.2.2.1 HG.out.2.2.2.1).mono ?_; rintro e w4 ⟨rfl, hk4, hb4⟩; have e8 := hk4.cell 8 (hashC_rest (comp hs (rs.take 64)) _ n2 (H8.comp _ _).len); have hfz4 := hk4.fz; have hsz4 := hb4.size; have HB4 := Lib.hid (And.intro hk4 hb4); clear hk4 hb4)
          | (at_builtin; refine wpList_app' rfl _ _ rfl base (.slice none 0 0) [] rfl (Own.nil _ _) (some ⟨gb, 0, none⟩) 0 _ (rs.drop 64) rfl (by have := HL64.out; have := HD2.out; omega) ⟨by rw [List.drop_of_length_le (by have := HL64.out; omega)]; simp, .inl (List.drop_of_length_le (by have := HL64.out; omega))⟩ (by intro hx; cases hx) (by have := HLE.out.1; have := HD2.out; simp; omega) (by have := HLE.out.2.1; omega) ?_; intro v5 w5 ho5 hb5 hg5 hv5; obtain ⟨a5, len5, cap5, rfl, hlen5⟩ := ho5.slice; have hk5 := HB4.out.1.grown hg5 (by simp [Value.ownBlock]); have e8' := hk5.cell 8 (hashC_rest (comp hs (rs.take 64)) _ n2 (H8.comp _ _).len); have hfz5 := hk5.fz; have HQ := Lib.hid (And.intro ho5 (And.intro hg5 (And.intro hv5 hk5))); clear ho5 hb5 hg5 hv5 hk5))
      case' neg =>
        go_wp2_with (first
          | (go_at_call 15; refine (blockIs _ hb hs _ n2 _ (rs.take 64) _ HG.out.1 HG.out.2.1 HG.out.2.2.1 HG.out.2.2.2.1).mono ?_; rintro e w4 ⟨rfl, hk4, hb4⟩; have e8 := hk4.cell 8 (hashC_rest (comp hs (rs.take 64)) _ n2 (H8.comp _ _).len); have hfz4 := hk4.fz; have hsz4 := hb4.size; have HB4 := Lib.hid (And.intro hk4 hb4); clear hk4 hb4)
          | (at_builtin; refine wpList_app' rfl _ _ rfl base (.slice none 0 0) [] rfl (Own.nil _ _) (some ⟨gb, 64, none⟩) (rs.length - 64) _ (rs.drop 64) rfl (by have := HD2.out; omega) (isBytes_drop (HB4.out.2.bytes HG.out.2.2.2.2.1 (fun x hx _ => by cases hx; exact HGN.out)) 64) (by intro hx; cases hx) (by have := HLE.out.1; have := HD2.out; simp; omega) (by have := HLE.out.2.1; omega) ?_; intro v5 w5 ho5 hb5 hg5 hv5; obtain ⟨a5, len5, cap5, rfl, hlen5⟩ := ho5.slice; have hk5 := HB4.out.1.grown hg5 (by simp [Value.ownBlock]); have e8' := hk5.cell 8 (hashC_rest (comp hs (rs.take 64)) _ n2 (H8.comp _ _).len); have hfz5 := hk5.fz; have HQ := Lib.hid (And.intro ho5 (And.intro hg5 (And.intro hv5 hk5))); clear ho5 hb5 hg5 hv5 hk5))
      all_goals
        go_roundg (rs.length - 64)
        case measure => have := HGK.out; omega
        case rel =>
          have hk6 := HQ.out.2.2.2.set 8 (.slice a5 len5 cap5)
          rw [hashC_setRest _ _ _ _ (H8.comp _ _).len] at hk6
          have hv6 : ∀ j, (Value.slice a5 len5 cap5).ownBlock = some j → wr.heap.size ≤ j := by
            intro j hj
            rcases HQ.out.2.2.1 with hx | hx
            · rw [hx] at hj; simp [Value.ownBlock] at hj
            · rw [hx] at hj; simp at hj; omega
          have hbwr : hb < wr.heap.size := by have := HLE.out.2.2.2; omega
          have hne6 : (Value.slice a5 len5 cap5).ownBlock ≠ some hb := fun e => by have := hv6 _ e; omega
          have hb6 : But (fun j => j = hb) w5 (w5.setCell ⟨hb, 8, none⟩ (.slice a5 len5 cap5)) := (But.refl (fun j => j = hb) w5).setCell (p := ⟨hb, 8, none⟩) rfl _
          have hb7 : But (fun j => j = hb) wr (w5.setCell ⟨hb, 8, none⟩ (.slice a5 len5 cap5)) := (HB4.out.2.grown HQ.out.2.1 (by simp [Value.ownBlock])).trans hb6
          refine ⟨_, rs.drop 64, comp hs (rs.take 64), HD2.out.symm, by have := HD2.out; omega, hk6, ?_, hne6, H8.comp _ _, ?_, HG.out.2.2.2.2.2.1.trans (hb7.mono fun j hj => .inl hj), fun j hj => .inr (by have := hv6 j hj; omega)⟩
          · have := hb6.own HQ.out.1 (fun j hj e => hne6 (by rw [hj, e]))
            simpa using this
          · rw [← HFE.out, HG.out.2.2.2.2.2.2.2]
    · obtain ⟨a3, cap3, rfl, -, -, -, -⟩ := hown.form
      have e8 := hblk.cell 8 (hashC_rest hs _ n2 hh.len)
      have hfe2 := feed_short hs rs (by omega)
      have hE : IsHash wr base hb (.slice a3 rs.length cap3) (feed h (rest ++ m)).1 (feed h (rest ++ m)).2 n2 := by
        rw [← hfe, hfe2]; exact ⟨hblk, hown, hne, HLE.out.2.2.1, hh⟩
      have HE := Lib.hid (And.intro hE (And.intro hbut hv))
      clear hblk hown hne hh hfe hbut hv hfe2 hE
      go_wp2
      go_end0
      exact ⟨rfl, _, HE.out.1, HE.out.2.1, HE.out.2.2⟩
end Go.Proofs.Ytiakkjdkbpbejaa
