/-
  pdu: a reader in memory; Feed, Left, stop.
-/
import Derived.Test.YtaehaclmagnncaaPduRef
import Derived.Test.YtaehaclmagnncaaPduEnc2
import Derived.Deep.QuietTactic
import Derived.BigQuiet
import Derived.Outline
namespace Go.Proofs.Ytaehaclmagnncaa
set_option linter.unusedVariables false
set_option linter.unusedSimpArgs false
open Go.RowKit
attribute [local go_sem ↓] Go.wp_at_zero Go.wp_at_succ

/-- The table lies in a block of its own. -/
def TabAt (w : World) (tp : Option Addr) : Prop := ∀ a, tp = some a → ∃ tb, a = ⟨tb, 0, none⟩ ∧ IsBlk w tb (tabRow 256) 65
theorem isTab_of {w : World} {tb : Nat} (h : IsBlk w tb (tabRow 256) 65) : IsTab w tb tab := fun i hi => ⟨tab_lt i hi, h.cell i (by rw [tabRow_get 256 i hi, if_pos hi])⟩
/-- A reader: its bytes, whether it is broken, its table. -/
structure IsRd (w : World) (B rb : Nat) (v : Value) (tp : Option Addr) (l : List Nat) (br : Bool) : Prop where
  blk : IsBlk w rb #[v, .bool br, .pointer tp] 37
  own : Own w B v l
  tab : TabAt w tp
  hB : B ≤ rb
/-- What a call of a reader may write: its own block, and its row. -/
def RdS (rb : Nat) (v : Value) (k : Nat) : Prop := k = rb ∨ v.ownBlock = some k
theorem blk_ne {w : World} {b c : Nat} {cs ds : Array Value} {t u : TypeId} (h : IsBlk w b cs t) (k : IsBlk w c ds u) (ht : t ≠ u) : b ≠ c := by
  rintro rfl
  have h' : w.heap[b]? = some (.cells cs t) := h
  have k' : w.heap[b]? = some (.cells ds u) := k
  rw [h'] at k'
  injection k' with k'
  injection k' with _ h2
  exact ht h2
theorem IsRd.ne {w : World} {B rb : Nat} {v : Value} {tp : Option Addr} {l : List Nat} {br : Bool} (h : IsRd w B rb v tp l br) : v.ownBlock ≠ some rb := h.own.ne_blk h.blk (by decide)
theorem IsRd.but {w w' : World} {B rb : Nat} {v : Value} {tp : Option Addr} {l : List Nat} {br : Bool} {S : Nat → Prop} (h : IsRd w B rb v tp l br) (hb : But S w w') (h1 : ¬ S rb) (h2 : ∀ k, v.ownBlock = some k → ¬ S k) (h3 : ∀ a, tp = some a → ¬ S a.block) : IsRd w' B rb v tp l br := by
  refine ⟨hb.blk h.blk h1, hb.own h.own h2, fun a ha => ?_, h.hB⟩
  obtain ⟨tb, rfl, ht⟩ := h.tab a ha
  exact ⟨tb, rfl, hb.blk ht (h3 _ ha)⟩
theorem IsRd.below {w w' : World} {B rb : Nat} {v : Value} {tp : Option Addr} {l : List Nat} {br : Bool} (h : IsRd w B rb v tp l br) (hb : Below w.heap.size w w') : IsRd w' B rb v tp l br :=
  h.but (S := fun _ => False) (But.of_below hb (Nat.le_refl _)) (fun h => h) (fun _ _ h => h) (fun _ _ h => h)

set_option maxHeartbeats 1000000 in
theorem feed_any {w : World} {B rb : Nat} {v : Value} {tp : Option Addr} {l : List Nat} (h : IsRd w B rb v tp l false) (s : ByteArray) (hs : l.length + s.size ≤ 140737488355328) (hB : B ≤ w.heap.size) :
    Calls Try.prog 15 #[.pointer (some ⟨rb, 0, none⟩), .string s] w fun e w' => e = .returned (.tuple #[]) ∧ ∃ v', IsRd w' B rb v' tp (l ++ byB s) false ∧ But (RdS rb v) w w' := by
  have c0 := h.blk.cell 0 (v := v) rfl
  have c1 := h.blk.cell 1 (v := .bool false) rfl
  have fz := h.blk.fz
  have H := Lib.hid h
  have hne := h.ne
  have HNE := Lib.hid hne
  clear h hne
  go_enter Try.func15, Try.ntmps15
  go_wp2_with (at_builtin; refine wpList_appS rfl (.tmp 17) (.tmp 18) rfl B v l rfl H.out.own s rfl hs hB ?_; intro v' w1 ho hb hg; obtain ⟨va, vn, vc, rfl, hvn⟩ := ho.slice; have k1 := H.out.blk.grown hg HNE.out; have d0 := k1.cell 0 (v := v) rfl; have fz1 := k1.fz; have HG := Lib.hid (And.intro ho (And.intro hb (And.intro hg k1))); clear ho hb hg k1)
  go_end0
  have hne' := HG.out.1.ne_blk HG.out.2.2.2 (by decide)
  have hbut : But (RdS rb v) w (w1.setCell ⟨rb, 0, none⟩ (.slice va vn vc)) := ((But.refl _ w).grown HG.out.2.2.1 (fun k hk => .inr hk)).setCell (p := ⟨rb, 0, none⟩) (.inl rfl) _
  refine ⟨rfl, .slice va vn vc, ⟨?_, ?_, fun a ha => ?_, H.out.hB⟩, hbut⟩
  · have := HG.out.2.2.2.set 0 (.slice va vn vc)
    exact this
  · exact ((But.refl (fun k => k = rb) w1).setCell (p := ⟨rb, 0, none⟩) rfl (.slice va vn vc)).own HG.out.1 (fun k hk e => hne' (by rw [hk, e]))
  · obtain ⟨tb, rfl, ht⟩ := H.out.tab a ha
    refine ⟨tb, rfl, hbut.blk ht ?_⟩
    rintro (e | e)
    · exact blk_ne ht H.out.blk (by decide) e
    · exact H.out.own.ne_blk ht (by decide) e

theorem feed_none (rb : Option Addr) (hr : rb = none) (s : ByteArray) (w : World) :
    Calls Try.prog 15 #[.pointer rb, .string s] w fun e w' => e = .returned (.tuple #[]) ∧ w = w' := by
  subst hr
  go_enter Try.func15, Try.ntmps15
  go_wp2_with fail
  go_end0
  exact ⟨rfl, rfl⟩
theorem feed_broken {w : World} {B rb : Nat} {v : Value} {tp : Option Addr} {l : List Nat} (h : IsRd w B rb v tp l true) (s : ByteArray) :
    Calls Try.prog 15 #[.pointer (some ⟨rb, 0, none⟩), .string s] w fun e w' => e = .returned (.tuple #[]) ∧ w = w' := by
  have c1 := h.blk.cell 1 (v := .bool true) rfl
  go_enter Try.func15, Try.ntmps15
  go_wp2_with fail
  go_end0
  exact ⟨rfl, rfl⟩
theorem left_none (w : World) : Calls Try.prog 19 #[.pointer none] w fun e w' => e = .returned (.int .i64 0) ∧ w = w' := by
  go_enter Try.func19, Try.ntmps19
  go_wp2_with fail
  go_ret
  exact ⟨rfl, rfl⟩
theorem left_any {w : World} {B rb : Nat} {v : Value} {tp : Option Addr} {l : List Nat} {br : Bool} (h : IsRd w B rb v tp l br) (n : Nat) (hn : l.length = n) :
    Calls Try.prog 19 #[.pointer (some ⟨rb, 0, none⟩)] w fun e w' => e = .returned (.int .i64 n) ∧ w = w' := by
  subst hn
  obtain ⟨a, cap, rfl, -⟩ := h.own.form
  have c0 := h.blk.cell 0 (v := .slice a l.length cap) rfl
  clear h
  go_enter Try.func19, Try.ntmps19
  go_wp2_with fail
  go_ret
  exact ⟨rfl, rfl⟩
theorem results_cell_tmp {P : Program} {fn : Func} {p q : Tmp} {ty : TypeId} (h : fn.results = #[.cell p ty, .tmp q]) (tmps : Array Value) (w : World) (g : Nat) (t : TypeId) (cs : Array Value) (d : TypeDesc)
    (hp : tmps.getD p undef = .pointer (some ⟨g, 0, none⟩)) (hg : IsBlk w g cs t) (v : Value) (hq : tmps.getD q undef = v)
    (hu : P.underlying ty = some d) (hd : (match d with | .struct _ | .array _ _ => true | _ => false) = true) (hi : (P.info? ty).map (·.size) = some cs.size) :
    (results fn tmps).run P w = .ok (.tuple #[.agg cs, v]) w := by
  have hp' : tmps[p]?.getD undef = .pointer (some ⟨g, 0, none⟩) := by simpa using hp
  have hq' : tmps[q]?.getD undef = v := by simpa using hq
  have hg' : w.heap[g]? = some (.cells cs t (0, 0)) := hg
  simp [results, h, hp', hq', asAddr, run_loadVar_row w g t ty cs (0, 0) d hg' hu hd hi]
/-- The cells of no PDU. -/
def pdZ : Array Value := #[.int .i64 0, .bool false, .int .u8 0, .int .u8 0, .int .u8 0, .slice none 0 0, .int .u64 0, .int .u32 0, .int .u32 0, .int .u32 0, .int .u32 0, .int .u32 0, .int .u32 0, .int .u32 0, .int .u32 0, .slice none 0 0]
theorem stop_any {w : World} {B rb : Nat} {v : Value} {tp : Option Addr} {l : List Nat} {br : Bool} (h : IsRd w B rb v tp l br) :
    Calls Try.prog 25 #[.pointer (some ⟨rb, 0, none⟩)] w fun e w' => e = .returned (.tuple #[.agg pdZ, .int .i64 3]) ∧ IsRd w' B rb (.slice none 0 0) tp [] true ∧ But (fun k => k = rb) w w' := by
  have c0 := h.blk.cell 0 (v := v) rfl
  have c1 := h.blk.cell 1 (v := .bool br) rfl
  have fz := h.blk.fz
  have hlt := h.blk.lt
  have H := Lib.hid h
  clear h
  go_enter Try.func25, Try.ntmps25
  go_wp2_with fail
  have hb2 : But (fun k => k = rb) w (((w.setCell ⟨rb, 0, none⟩ (.slice none 0 0)).setCell ⟨rb, 1, none⟩ (.bool true)).alloc (.cells pdZ 28)) :=
    (((But.refl (fun k => k = rb) w).setCell (p := ⟨rb, 0, none⟩) rfl _).setCell (p := ⟨rb, 1, none⟩) rfl _).alloc _
  have hk : IsBlk (((w.setCell ⟨rb, 0, none⟩ (.slice none 0 0)).setCell ⟨rb, 1, none⟩ (.bool true)).alloc (.cells pdZ 28)) w.heap.size pdZ 28 := by
    have := IsBlk.new ((w.setCell ⟨rb, 0, none⟩ (.slice none 0 0)).setCell ⟨rb, 1, none⟩ (.bool true)) pdZ 28
    simpa [World.setCell] using this
  refine bodyPost_ret (v := .tuple #[.agg pdZ, .int .i64 3]) (results_cell_tmp Try.results25 _ _ w.heap.size 28 pdZ _ (by rfl) hk _ (by rfl) Try.underlying28 rfl (by kernel_rfl)) rfl ⟨rfl, ⟨?_, Own.nil _ _, fun a ha => ?_, H.out.hB⟩, hb2⟩
  · exact (((H.out.blk.set 0 (.slice none 0 0)).set 1 (.bool true)).alloc _)
  · obtain ⟨tb, rfl, ht⟩ := H.out.tab a ha
    exact ⟨tb, rfl, hb2.blk ht (blk_ne ht H.out.blk (by decide))⟩
end Go.Proofs.Ytaehaclmagnncaa
