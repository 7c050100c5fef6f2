/-
  pdu: Next: what its states are; its ways out at the head.
-/
import Derived.Test.YtaehaclmagnncaaPduRd
import Derived.Deep.DeepCutAuto
import Derived.Deep.CutBlock
import Derived.Deep.RegionHeld3
import Derived.Lib.EndianBits
import Derived.IntWalk
import Derived.Outline
namespace Go.Proofs.Ytaehaclmagnncaa
set_option linter.unusedVariables false
set_option linter.unusedSimpArgs false
open Go.RowKit
attribute [local go_sem ↓] Go.wp_at_zero Go.wp_at_succ

/-- The cells read as a PDU. -/
def IsPdv (w : World) (cs : Array Value) (p : PD) : Prop := ∃ aa ac da dc, cs = pdC p aa ac da dc ∧ IsBytes w aa p.ahs ∧ IsBytes w da p.data ∧ (aa = none → ac = 0) ∧ (da = none → dc = 0)
theorem pdv_zero (w : World) : IsPdv w pdZ {} := ⟨none, 0, none, 0, rfl, ⟨by simp, .inl rfl⟩, ⟨by simp, .inl rfl⟩, fun _ => rfl, fun _ => rfl⟩
/-- Where a row that a method leaves may lie: it is new, or that of before. -/
def NV (w : World) (rb : Nat) (v' : Value) : Prop := ∀ k, v'.ownBlock = some k → w.heap.size ≤ k ∨ ∃ v, w.cell? ⟨rb, 0, none⟩ = some v ∧ v.ownBlock = some k
/-- What Next leaves. -/
def NextR (w : World) (B rb : Nat) (l : List Nat) (h d : Bool) (e : Ending) (w' : World) : Prop :=
  ∃ cs v' tp', e = .returned (.tuple #[.agg cs, .int .i64 ((findP l h d).code : Nat)]) ∧ IsPdv w' cs (pduP l h d) ∧ IsRd w' B rb v' tp' (restP l h d) (findP l h d == .broken) ∧ But (fun k => k = rb) w w' ∧ NV w rb v'

set_option maxRecDepth 100000 in
theorem next_none (h d : Bool) (w : World) : Calls Try.prog 16 #[.pointer none, .bool h, .bool d] w fun e w' => e = .returned (.tuple #[.agg pdZ, .int .i64 3]) ∧ Below w.heap.size w w' := by
  go_enter Try.func16, Try.ntmps16
  go_wp2_with fail
  exact bodyPost_ret (v := .tuple #[.agg pdZ, .int .i64 3]) (results_cell_tmp Try.results16 _ _ w.heap.size 28 pdZ _ (by rfl) (IsBlk.new _ _ _) _ (by rfl) Try.underlying28 rfl (by kernel_rfl)) rfl ⟨rfl, (Below.refl _ _).alloc (Nat.le_refl _) _⟩
set_option maxRecDepth 100000 in
theorem next_broken {w : World} {B rb : Nat} {v : Value} {tp : Option Addr} {l : List Nat} (hr : IsRd w B rb v tp l true) (h d : Bool) : Calls Try.prog 16 #[.pointer (some ⟨rb, 0, none⟩), .bool h, .bool d] w fun e w' => e = .returned (.tuple #[.agg pdZ, .int .i64 3]) ∧ Below w.heap.size w w' := by
  have c1 := hr.blk.cell 1 (v := .bool true) rfl
  have hlt := hr.blk.lt
  clear hr
  go_enter Try.func16, Try.ntmps16
  go_wp2_with fail
  exact bodyPost_ret (v := .tuple #[.agg pdZ, .int .i64 3]) (results_cell_tmp Try.results16 _ _ w.heap.size 28 pdZ _ (by rfl) (IsBlk.new _ _ _) _ (by rfl) Try.underlying28 rfl (by kernel_rfl)) rfl ⟨rfl, (Below.refl _ _).alloc (Nat.le_refl _) _⟩
set_option maxRecDepth 100000 in
theorem next_short {w : World} {B rb : Nat} {v : Value} {tp : Option Addr} {l : List Nat} (hr : IsRd w B rb v tp l false) (hl : l.length < 48) (h d : Bool) : Calls Try.prog 16 #[.pointer (some ⟨rb, 0, none⟩), .bool h, .bool d] w (NextR w B rb l h d) := by
  obtain ⟨a, cap, rfl, -⟩ := hr.own.form
  have hf : findP l h d = .nothing := by unfold findP; rw [if_pos hl]
  obtain ⟨n, hn⟩ : ∃ n, n = l.length := ⟨_, rfl⟩
  rw [← hn] at hl
  have c0 := hr.blk.cell 0 (v := .slice a l.length cap) rfl
  rw [← hn] at c0
  have c1 := hr.blk.cell 1 (v := .bool false) rfl
  have hlt := hr.blk.lt
  have HR := Lib.hid (And.intro hr (And.intro hf hn))
  have g1 : decide (n < 48) = true := by simp [hl]
  have g2 : decide ((n : Int) < 48) = true := by simp; omega
  clear hr hn hf
  go_enter Try.func16, Try.ntmps16
  go_wp2_with fail
  refine bodyPost_ret (v := .tuple #[.agg pdZ, .int .i64 0]) (results_cell_tmp Try.results16 _ _ w.heap.size 28 pdZ _ (by rfl) (IsBlk.new _ _ _) _ (by rfl) Try.underlying28 rfl (by kernel_rfl)) rfl ?_
  refine ⟨pdZ, .slice a l.length cap, tp, by rw [HR.out.2.1]; rfl, ?_, ?_, (But.refl _ _).alloc _, fun k hk => .inr ⟨_, HR.out.1.blk.cell 0 rfl, hk⟩⟩
  · have : pduP l h d = {} := by unfold pduP; rw [HR.out.2.1]
    rw [this]; exact pdv_zero _
  · have : restP l h d = l := by unfold restP; rw [HR.out.2.1]
    rw [this, HR.out.2.1]
    exact HR.out.1.below ((Below.refl _ _).alloc (Nat.le_refl _) _)

/-- A number out of three bytes. -/
theorem or3 (a b c : Nat) (ha : a < 256) (hb : b < 256) (hc : c < 256) : Go.bits .or .i64 (Go.bits .or .i64 ((a : Int) * 65536) ((b : Int) * 256)) (c : Int) = (((a * 256 + b) * 256 + c : Nat) : Int) := by
  have e1 := bits_join .i64 63 (by decide) (fun n h0 h1 => IntWalk.i64_in n (by omega)) 16 ((a : Int) * 65536) ((b : Int) * 256) (by omega) (by omega) (by omega) (by omega) (by omega) (by omega)
  rw [e1]
  have e2 := bits_join .i64 63 (by decide) (fun n h0 h1 => IntWalk.i64_in n (by omega)) 8 ((a : Int) * 65536 + (b : Int) * 256) (c : Int) (by omega) (by omega) (by omega) (by omega) (by omega) (by omega)
  rw [e2]
  omega
theorem and128 (x : Nat) (h : x < 256) : Go.bits .and .u8 (x : Int) 128 = ((x / 128 * 128 : Nat) : Int) := by
  have : ∀ x : Fin 256, Go.bits .and .u8 (x.1 : Int) 128 = ((x.1 / 128 * 128 : Nat) : Int) := by decide +kernel
  exact this ⟨x, h⟩
theorem pdZ_one : pdZ.all (·.oneCell') = true := by simp [pdZ, Value.oneCell']
/-- The middle of Next: the table is there. -/
structure Nx (w wx : World) (B rb g n cap R tb : Nat) (l : List Nat) : Prop where
  rd : IsRd wx B rb (.slice (some ⟨g, 0, none⟩) n cap) (some ⟨tb, 0, none⟩) l false
  res : IsBlk wx R pdZ 28
  but : But (fun k => k = rb) w wx
  hR : w.heap.size ≤ R
  nv : NV w rb (.slice (some ⟨g, 0, none⟩) n cap)
theorem But.drewN' {S : Nat → Prop} {w w' : World} (h : But S w w') (n : Nat) : But S w (w'.drewN n) := h.drewN n
theorem IsRd.drewN {w : World} {B rb : Nat} {v : Value} {tp : Option Addr} {l : List Nat} {br : Bool} (h : IsRd w B rb v tp l br) (n : Nat) : IsRd (w.drewN n) B rb v tp l br := ⟨h.blk.drewN n, h.own, h.tab, h.hB⟩
theorem Nx.drewN {w wx : World} {B rb g n cap R tb : Nat} {l : List Nat} (h : Nx w wx B rb g n cap R tb l) (k : Nat) : Nx w (wx.drewN k) B rb g n cap R tb l := ⟨h.rd.drewN k, h.res.drewN k, h.but.drewN k, h.hR, h.nv⟩
theorem But.setRow {S : Nat → Prop} {w w' : World} (h : But S w w') {g : Nat} (hg : w.heap.size ≤ g) (cs : Array Value) : But S w (w'.setRow g cs) :=
  ⟨h.os, h.tape, h.output, by have := h.size; simp [World.setRow]; omega, fun k hk hn => (Go.setRow_other w' g k cs (by omega)).trans (h.block k hk hn)⟩
theorem IsRd.setRow {w : World} {B rb : Nat} {v : Value} {tp : Option Addr} {l : List Nat} {br : Bool} (h : IsRd w B rb v tp l br) {g : Nat} {cs0 : Array Value} (hg : IsBlk w g cs0 28) (cs : Array Value) : IsRd (w.setRow g cs) B rb v tp l br := by
  have hb : But (fun k => k = g) w (w.setRow g cs) := ⟨rfl, rfl, rfl, by simp [World.setRow], fun k _ hn => Go.setRow_other w g k cs hn⟩
  refine h.but hb (fun e => blk_ne h.blk hg (by decide) e) (fun k hk e => h.own.ne_blk hg (by decide) (by rw [hk, e])) (fun a ha e => ?_)
  obtain ⟨tb, rfl, ht⟩ := h.tab a ha
  exact blk_ne ht hg (by decide) e
/-- The table is made. -/
theorem Nx.made {w : World} {B rb g n cap R : Nat} {l : List Nat} {tp : Option Addr} (h : IsRd w B rb (.slice (some ⟨g, 0, none⟩) n cap) tp l false) (hR : R = w.heap.size) :
    Nx w (((w.setCell ⟨rb, 2, none⟩ (.pointer (some ⟨w.heap.size + 1, 0, none⟩))).alloc (.cells pdZ 28)).alloc (.cells (tabRow 256) 65)) B rb g n cap R (w.heap.size + 1) l := by
  have hb : But (fun k => k = rb) w (((w.setCell ⟨rb, 2, none⟩ (.pointer (some ⟨w.heap.size + 1, 0, none⟩))).alloc (.cells pdZ 28)).alloc (.cells (tabRow 256) 65)) :=
    (((But.refl (fun k => k = rb) w).setCell (p := ⟨rb, 2, none⟩) rfl _).alloc _).alloc _
  have hs : (w.setCell ⟨rb, 2, none⟩ (.pointer (some ⟨w.heap.size + 1, 0, none⟩))).heap.size = w.heap.size := by simp [World.setCell]
  refine ⟨⟨((h.blk.set 2 _).alloc _).alloc _, hb.own h.own (fun k hk e => h.ne (by rw [hk, e])), ?_, h.hB⟩, ?_, hb, by omega, fun k hk => .inr ⟨_, h.blk.cell 0 rfl, hk⟩⟩
  · intro a ha
    cases ha
    refine ⟨_, rfl, ?_⟩
    have := IsBlk.new ((w.setCell ⟨rb, 2, none⟩ (.pointer (some ⟨w.heap.size + 1, 0, none⟩))).alloc (.cells pdZ 28)) (tabRow 256) 65
    rw [World.size_alloc, hs] at this
    exact this
  · have := (IsBlk.new (w.setCell ⟨rb, 2, none⟩ (.pointer (some ⟨w.heap.size + 1, 0, none⟩))) pdZ 28).alloc (.cells (tabRow 256) 65)
    rw [hs] at this
    rw [hR]; exact this
theorem Nx.below {w wx wy : World} {B rb g n cap R tb : Nat} {l : List Nat} (h : Nx w wx B rb g n cap R tb l) (hb : Below wx.heap.size wx wy) : Nx w wy B rb g n cap R tb l :=
  ⟨h.rd.below hb, h.res.below hb h.res.lt, h.but.trans (But.of_below hb (Nat.le_refl _)), h.hR, h.nv⟩
/-- Nothing yet. -/
theorem Nx.nothing {w wx : World} {B rb g n cap R tb : Nat} {l : List Nat} {h d : Bool} (hx : Nx w wx B rb g n cap R tb l) (hf : findP l h d = .nothing) : NextR w B rb l h d (.returned (.tuple #[.agg pdZ, .int .i64 0])) (wx.setRow R pdZ) := by
  refine ⟨pdZ, .slice (some ⟨g, 0, none⟩) n cap, some ⟨tb, 0, none⟩, by rw [hf]; rfl, ?_, ?_, hx.but.setRow hx.hR _, hx.nv⟩
  · have : pduP l h d = {} := by unfold pduP; rw [hf]
    rw [this]; exact pdv_zero _
  · have : restP l h d = l := by unfold restP; rw [hf]
    rw [this, hf]
    exact hx.rd.setRow hx.res _
/-- Broken. -/
theorem Nx.broken {w wx wy : World} {B rb g n cap R tb : Nat} {l : List Nat} {h d : Bool} {tp : Option Addr} (hx : Nx w wx B rb g n cap R tb l) (hf : findP l h d = .broken) (hs : IsRd wy B rb (.slice none 0 0) tp [] true) (hb : But (fun k => k = rb) wx wy) : NextR w B rb l h d (.returned (.tuple #[.agg pdZ, .int .i64 3])) (wy.setRow R pdZ) := by
  have hres : IsBlk wy R pdZ 28 := hb.blk hx.res (fun e => blk_ne hx.rd.blk hx.res (by decide) e.symm)
  refine ⟨pdZ, .slice none 0 0, tp, by rw [hf]; rfl, ?_, ?_, (hx.but.trans hb).setRow hx.hR _, fun k hk => by simp [Value.ownBlock] at hk⟩
  · have : pduP l h d = {} := by unfold pduP; rw [hf]
    rw [this]; exact pdv_zero _
  · have : restP l h d = [] := by unfold restP; rw [hf]
    rw [this, hf]
    exact hs.setRow hres _

end Go.Proofs.Ytaehaclmagnncaa
