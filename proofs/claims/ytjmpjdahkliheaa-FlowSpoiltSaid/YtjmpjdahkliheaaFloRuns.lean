/-
  flow: the law FlowRuns.
-/
import Derived.Test.YtjmpjdahkliheaaFloBoth
import Derived.Test.YtjmpjdahkliheaaFloLight
import Derived.Deep.DeepCutAuto
import Derived.Laws.BytesArg
import Derived.Deep.RegionHeld3
namespace Go.Proofs.Ytjmpjdahkliheaa
set_option linter.unusedVariables false
set_option linter.unusedSimpArgs false
open Go.RowKit

/-- Bytes as a string. -/
def strB (l : List Nat) : ByteArray := strOfNums (l.map fun (c : Nat) => (c : Int))
theorem conv_bytes {w : World} {a : Option Addr} {l : List Nat} {n cap : Nat} (h : IsBytes w a l) (hn : n = l.length) : (convert 33 9 (.slice a n cap)).run Try.prog w = .ok (.string (strB l)) w := by
  subst hn
  rcases h.2 with rfl | ⟨b, off, rfl, hc⟩
  · cases a with
    | none => exact run_convert_bytes_nil w 33 5 Try.underlying33 Try.underlying5 0 cap 9 Try.underlying9
    | some ad =>
      rw [run_convert_bytes_string w 33 9 5 _ _ cap Try.underlying33 Try.underlying5 Try.underlying9]
      exact run_bytesToString w ad 0 cap [] (run_loadCells_list w ad [] (by simp))
  · refine run_convert_bytes_arg w 33 5 Try.underlying33 Try.underlying5 b off l.length cap (l.map fun (c : Nat) => (c : Int)) (by simp) (fun i hi => ?_) 9 Try.underlying9
    rw [hc i hi]
    simp [List.getD, hi]

theorem new_any (d0 d3 burst first need : Int) (d1 d2 ready tog final : Bool) (A : Option Addr) (n c : Nat) (m : List Nat) (w : World)
    (hL : n = m.length) (hm : IsBytes w A m) (hc0 : A = none → c = 0) (hl2 : n ≤ 100000) (hn1 : need < 9223372036854775808) (ok : Bool) (hok : okN first need ready tog m.length final = ok) :
    Calls Try.prog 12 #[.agg #[.int .i64 d0, .bool d1, .bool d2, .int .i64 d3, .int .i64 burst, .int .i64 first, .bool ready, .bool tog], .int .i64 need, .slice A n c, .bool final] w fun e w' => ∃ v,
      e = .returned (.tuple #[.pointer (bif ok then some ⟨w.heap.size + 1, 0, none⟩ else none), .bool ok]) ∧ Below w.heap.size w w' ∧ (ok = true → IsFlow w' w.heap.size (w.heap.size + 1) v burst need (newS first need m final)) := by
  refine new_walk d0 d3 burst first need d1 d2 ready tog final A n c m w _ hL hm hc0 hl2 hn1 ?_ ?_
  · intro h W hW
    rw [hok] at h; subst h
    exact ⟨.bool false, rfl, hW, fun h => by cases h⟩
  · intro h W v hW hf
    rw [hok] at h; subst h
    exact ⟨v, rfl, hW, fun _ => hf⟩
theorem newR_any (d0 d3 burst first need : Int) (d1 d2 ready tog final : Bool) (A : Option Addr) (n c : Nat) (m : List Nat) (w : World)
    (hL : n = m.length) (hm : IsBytes w A m) (hc0 : A = none → c = 0) (hl2 : n ≤ 100000) (hn1 : need < 9223372036854775808) (ok : Bool) (hok : okN first need ready tog m.length final = ok) :
    Calls Try.prog 13 #[.agg #[.int .i64 d0, .bool d1, .bool d2, .int .i64 d3, .int .i64 burst, .int .i64 first, .bool ready, .bool tog], .int .i64 need, .slice A n c, .bool final] w fun e w' => ∃ v rb,
      e = .returned (.tuple #[.pointer (bif ok then some ⟨rb, 0, none⟩ else none), .bool ok]) ∧ Below w.heap.size w w' ∧ (ok = true → IsFlowR w' w.heap.size rb v burst need (newS first need m final)) := by
  refine newR_walk d0 d3 burst first need d1 d2 ready tog final A n c m w _ hL hm hc0 hl2 hn1 ?_ ?_
  · intro h W hW
    rw [hok] at h; subst h
    exact ⟨.bool false, 0, rfl, hW, fun h => by cases h⟩
  · intro h W fb v hW hf
    rw [hok] at h; subst h
    exact ⟨v, fb, rfl, hW, fun _ => hf⟩

theorem IsFlow.mono {w : World} {base base' fb : Nat} {v : Value} {burst need : Int} {s : FS} (h : IsFlow w base fb v burst need s) (hb : base' ≤ base) : IsFlow w base' fb v burst need s :=
  ⟨h.blk, h.own.mono hb, h.ne, Nat.le_trans hb h.hfb, h.fine⟩
theorem IsFlowR.mono {w : World} {base base' fb : Nat} {v : Value} {burst need : Int} {s : FS} (h : IsFlowR w base fb v burst need s) (hb : base' ≤ base) : IsFlowR w base' fb v burst need s :=
  ⟨h.blk, h.own.mono hb, h.ne, Nat.le_trans hb h.hfb, h.fine⟩

/-- Both flows, new. -/
theorem both_new {w0 w1 w2 : World} {fb rb pb : Nat} {v u : Value} {burst need : Int} {s t : FS} {cs : Array Value} {tc : TypeId} (h1 : IsFlow w1 w0.heap.size fb v burst need s) (h2 : IsFlowR w2 w1.heap.size rb u burst need t)
    (hb1 : Below w0.heap.size w0 w1) (hb2 : Below w1.heap.size w1 w2) (hp : IsBlk w0 pb cs tc) : Both w0.heap.size w0 w2 fb rb pb v u burst need s t cs tc := by
  have hl := h1.lt
  have hpl := hp.lt
  have hf := h1.hfb
  have hr := h2.hfb
  have hs := hb1.size
  refine ⟨h1.but (S := fun _ => False) (But.of_below hb2 (Nat.le_refl _)) (fun h => h) (fun _ _ h => h), h2.mono hs, (hp.below hb1 hpl).below hb2 (by omega), hb1.trans (hb2.mono hs), Nat.le_refl _, by omega, by omega, by omega, ?_, ?_, ?_, ?_, ?_⟩
  · intro e; have := h1.own.lt _ e; omega
  · intro e; have := h1.own.base_le _ e; omega
  · intro e; have := h2.own.base_le _ e; omega
  · intro e; have := h2.own.base_le _ e; omega
  · intro k e1 e2; have := h1.own.lt _ e1; have := h2.own.base_le _ e2; omega

theorem come_len (s : FS) (sn at_ : Int) (m : List Nat) (final : Bool) : (comeS s sn at_ m final).data.length ≤ s.data.length + m.length := by
  unfold comeS
  cases okC s sn at_ m.length final <;> cases final <;> simp
theorem ask_len (s : FS) (burst need : Int) : (askS s burst need).data = s.data := by
  unfold askS
  cases okA s burst need <;> simp

section
variable {B : Nat} {w0 w : World} {fb rb pb : Nat} {v u : Value} {burst need : Int} {s t : FS} {cs : Array Value} {tc : TypeId}
theorem Both.r9 (h : Both B w0 w fb rb pb v u burst need s t cs tc) : w.cell? ⟨rb, 9, none⟩ = some u := by
  obtain ⟨⟨d0, d1, d2, d3, d5, d6, d7, hk⟩, _⟩ := h.r
  exact hk.cell 9 rfl
theorem Both.conv {a : Option Addr} {n c : Nat} (h : Both B w0 w fb rb pb v (.slice a n c) burst need s t cs tc) : (convert 33 9 (.slice a n c)).run Try.prog w = .ok (.string (strB t.data)) w := by
  obtain ⟨a', c', he, hb, _⟩ := h.r.own.form
  cases he
  exact conv_bytes hb rfl
end

set_option maxHeartbeats 8000000 in
set_option maxRecDepth 100000 in
theorem runs_walk (d0 d3 burst first need : Int) (d1 d2 ready tog final : Bool) (zA : Option Addr) (zn zc : Nat) (zm : List Nat) (a : Option Addr) (len cap : Nat) (K : Nat → CallD) (w : World)
    (HZ : Hid (zn = zm.length)) (hz : zn ≤ 140737488355328) (hzb : IsBytes w zA zm) (hz0 : zA = none → zc = 0) (hK : IsCalls w a len K) (hlen : len ≤ 140737488355328) (hn1 : need < 9223372036854775808) :
    Calls Try.prog 4 #[.agg #[.int .i64 d0, .bool d1, .bool d2, .int .i64 d3, .int .i64 burst, .int .i64 first, .bool ready, .bool tog, .int .i64 need, .slice zA zn zc, .bool final], .slice a len cap] w fun e w' => e = .returned (.bool true) ∧ Below w.heap.size w w' := by
  go_enter Try.func4, Try.ntmps4
  go_wp2_with fail
  have hW := Below.alloc (Below.refl w.heap.size w) (Nat.le_refl _) (.cells #[.int .i64 d0, .bool d1, .bool d2, .int .i64 d3, .int .i64 burst, .int .i64 first, .bool ready, .bool tog, .int .i64 need, .slice zA zn zc, .bool final] 35)
  have hP0 := IsBlk.new w #[.int .i64 d0, .bool d1, .bool d2, .int .i64 d3, .int .i64 burst, .int .i64 first, .bool ready, .bool tog, .int .i64 need, .slice zA zn zc, .bool final] 35
  refine (stands_any _).mono ?_
  rintro e w1 ⟨rfl, hb1⟩
  have hP := hP0.below hb1 (by simp)
  have hB1 := hW.trans (hb1.mono (by simp))
  have hK1 := hK.below hB1
  have hzb1 := hzb.of_below hB1
  clear hP0 hW hb1
  have p0 := hP.cell 0 rfl
  have p1 := hP.cell 1 rfl
  have p2 := hP.cell 2 rfl
  have p3 := hP.cell 3 rfl
  have p4 := hP.cell 4 rfl
  have p5 := hP.cell 5 rfl
  have p6 := hP.cell 6 rfl
  have p7 := hP.cell 7 rfl
  have p8 := hP.cell 8 rfl
  have p9 := hP.cell 9 rfl
  have p10 := hP.cell 10 rfl
  by_cases hq : zn + pre K len ≤ 20000
  · have hqB : decide (zn + pre K len ≤ 20000) = true := decide_eq_true hq
    go_wp2_with fail
    refine (light_any d0 d3 burst first need d1 d2 ready tog final zA zn zc a len cap K _ hz hK1 hlen).mono ?_
    rintro e w2 ⟨rfl, hb2⟩
    rw [hqB]
    have hP2 := hP.below hb2 hP.lt
    have hB2 := hB1.trans (hb2.mono hB1.size)
    have hK2 := hK.below hB2
    have hzb2 := hzb.of_below hB2
    clear hP hb2 hB1 hK1 hzb1 p0 p1 p2 p3 p4 p5 p6 p7 p8 p9 p10 hqB
    have p0 := hP2.cell 0 rfl
    have p1 := hP2.cell 1 rfl
    have p2 := hP2.cell 2 rfl
    have p3 := hP2.cell 3 rfl
    have p4 := hP2.cell 4 rfl
    have p5 := hP2.cell 5 rfl
    have p6 := hP2.cell 6 rfl
    have p7 := hP2.cell 7 rfl
    have p8 := hP2.cell 8 rfl
    have p9 := hP2.cell 9 rfl
    have p10 := hP2.cell 10 rfl
    go_wp2_with fail
    cases hok : okN first need ready tog zm.length final with
    | false =>
      refine (new_any d0 d3 burst first need d1 d2 ready tog final zA zn zc zm _ HZ.out hzb2 hz0 (by omega) hn1 false hok).mono ?_
      rintro e w3 ⟨v, rfl, hb3, _⟩
      have hP3 := hP2.below hb3 hP2.lt
      have hB3 := hB2.trans (hb3.mono hB2.size)
      have hzb3 := hzb.of_below hB3
      have HOK := Lib.hid hok
      clear hP2 hb3 hB2 hK2 hzb2 p0 p1 p2 p3 p4 p5 p6 p7 p8 p9 p10 hok
      have p0 := hP3.cell 0 rfl
      have p1 := hP3.cell 1 rfl
      have p2 := hP3.cell 2 rfl
      have p3 := hP3.cell 3 rfl
      have p4 := hP3.cell 4 rfl
      have p5 := hP3.cell 5 rfl
      have p6 := hP3.cell 6 rfl
      have p7 := hP3.cell 7 rfl
      have p8 := hP3.cell 8 rfl
      have p9 := hP3.cell 9 rfl
      have p10 := hP3.cell 10 rfl
      go_wp2_with fail
      refine (newR_any d0 d3 burst first need d1 d2 ready tog final zA zn zc zm _ HZ.out hzb3 hz0 (by omega) hn1 false HOK.out).mono ?_
      rintro e w4 ⟨u, rb, rfl, hb4, _⟩
      have hB4 := hB3.trans (hb4.mono hB3.size)
      clear hB3 hb4 hzb3 hP3
      go_wp2
      go_ret
      exact ⟨rfl, hB4⟩
    | true =>
      refine (new_any d0 d3 burst first need d1 d2 ready tog final zA zn zc zm _ HZ.out hzb2 hz0 (by omega) hn1 true hok).mono ?_
      rintro e w3 ⟨v, rfl, hb3, hf3⟩
      replace hf3 := hf3 rfl
      have hP3 := hP2.below hb3 hP2.lt
      have hB3 := hB2.trans (hb3.mono hB2.size)
      have hzb3 := hzb.of_below hB3
      have HOK := Lib.hid hok
      have HP2 := Lib.hid (And.intro hP2 (And.intro hb3 hB2))
      clear hP2 hb3 hB2 hK2 hzb2 p0 p1 p2 p3 p4 p5 p6 p7 p8 p9 p10 hok
      have p0 := hP3.cell 0 rfl
      have p1 := hP3.cell 1 rfl
      have p2 := hP3.cell 2 rfl
      have p3 := hP3.cell 3 rfl
      have p4 := hP3.cell 4 rfl
      have p5 := hP3.cell 5 rfl
      have p6 := hP3.cell 6 rfl
      have p7 := hP3.cell 7 rfl
      have p8 := hP3.cell 8 rfl
      have p9 := hP3.cell 9 rfl
      have p10 := hP3.cell 10 rfl
      go_wp2_with fail
      refine (newR_any d0 d3 burst first need d1 d2 ready tog final zA zn zc zm _ HZ.out hzb3 hz0 (by omega) hn1 true HOK.out).mono ?_
      rintro e w4 ⟨u, rb, rfl, hb4, hf4⟩
      replace hf4 := hf4 rfl
      have hboth := both_new hf3 hf4 HP2.out.2.1 hb4 HP2.out.1
      have hdat : (newS first need zm final).data.length = zn := HZ.out.symm
      have hw2 : w.heap.size ≤ w2.heap.size := HP2.out.2.2.size
      have HB2 := Lib.hid HP2.out.2.2
      have HB := Lib.hid hboth
      have HD := Lib.hid hdat
      clear hB3 hb4 hzb3 hP3 hf3 hf4 HP2 hboth hdat HOK p0 p1 p2 p3 p4 p5 p6 p7 p8 p9 p10
      generalize newS first need zm final = s0 at *
      generalize w2.heap.size + 1 = fb at *
      go_wp2
      go_loopw [62] (fun i wr => ∃ (k : Nat) (s : FS) (v u : Value) (pb : Nat) (cs : Array Value) (tc : TypeId), k ≤ len ∧ i = .int .i64 k ∧ Both w2.heap.size w2 wr fb rb pb v u burst need s s cs tc ∧ s.data.length ≤ zn + pre K k) (fun i _ => len - (intOf i).toNat)
      case atStart => exact ⟨0, s0, v, u, _, _, _, by omega, rfl, HB.out, by have := HD.out; omega⟩
      case round =>
        clear HB HD
        obtain ⟨k, s, v, u, pb, cs, tc, hk, rfl, hbo, hsl⟩ := hrel
        by_cases hlt : k < len
        · have hBr : Below w.heap.size w wr := HB2.out.trans (hbo.bel.mono hw2)
          obtain ⟨b, off, rfl, hbl, hcs⟩ := hK.at_.resolve_left (by omega)
          obtain ⟨q1, q2, q3, q4, q5⟩ := hcs k hlt
          obtain ⟨y1, y2, y3, y4⟩ := hK.byt k hlt
          have q1' := (hBr.cell (p := ⟨b, off + k * 5, none⟩) hbl).trans q1
          have q2' := (hBr.cell (p := ⟨b, off + k * 5 + 1, none⟩) hbl).trans q2
          have q3' := (hBr.cell (p := ⟨b, off + k * 5 + 2, none⟩) hbl).trans q3
          have q4' := (hBr.cell (p := ⟨b, off + k * 5 + 3, none⟩) hbl).trans q4
          have q5' := (hBr.cell (p := ⟨b, off + k * 5 + 4, none⟩) hbl).trans q5
          have hp : pre K (k + 1) = pre K k + (1 + (K k).m.length) := rfl
          have hp2 := pre_mono K (show k + 1 ≤ len by omega)
          have HY1 := Lib.hid y1
          clear q1 q2 q3 q4 q5 hcs y1
          generalize (K k).kd = kd at *
          generalize (K k).sn = sn at *
          generalize (K k).at_ = at_ at *
          generalize (K k).A = A at *
          generalize (K k).m = m at *
          generalize (K k).c = c at *
          generalize (K k).fin = cf at *
          obtain ⟨n, hn⟩ : ∃ n, n = m.length := ⟨_, rfl⟩
          rw [← hn] at q4' hp y3
          have hbc := hbo.copy #[.int .i64 kd, .int .u32 sn, .int .i64 at_, .slice A n c, .bool cf] 46
          have hl1 : s.data.length ≤ 100000 := by omega
          have hl2 : m.length ≤ 100000 := by omega
          have HL1 := Lib.hid hl1
          have HL2 := Lib.hid hl2
          clear hl1 hl2
          have HBC := Lib.hid hbc
          have HY4 := Lib.hid y4
          have HN := Lib.hid hn
          have HPP := Lib.hid (And.intro hp hp2)
          clear hbo hbc hp hp2 hn y4
          by_cases hk0 : kd = 0
          case' pos =>
            have hk0' : (kd == 0) = true := by simp [hk0]
            clear hk0
            obtain ⟨ok, asn, aat, an, hav⟩ := askV_form s burst need
            have HAV := Lib.hid hav
            clear hav
            go_wp2_with fail
            refine (HBC.out.ask1' ok asn aat an HAV.out).mono ?_
            rintro e w5 ⟨rfl, h5⟩
            have H5 := Lib.hid h5
            clear h5 q1' q2' q3' q4' q5'
            go_wp2_with fail
            refine ((H5.out.copy _ _).ask2' ok asn aat an HAV.out).mono ?_
            rintro e w6 ⟨rfl, h6⟩
            have c0 := h6.p.cell 0 rfl
            have c1 := h6.p.cell 1 rfl
            have c2 := h6.p.cell 2 rfl
            have c3 := h6.p.lt
            have h6' := h6.below ((Below.refl _ _).alloc (Nat.le_refl _) (.cells #[.int .i64 aat, .int .i64 an, .bool false] 29))
            have H6 := Lib.hid h6'
            clear h6 h6'
            generalize w5.heap.size = pb5 at *
            go_wp2
            generalize w6.alloc (.cells #[.int .i64 aat, .int .i64 an, .bool false] 29) = W6 at *
            have hs6 : (askS s burst need).data.length ≤ zn + pre K (k + 1) := by rw [ask_len, HPP.out.1]; omega
            have HS6 := Lib.hid hs6
            obtain ⟨s6, hs6'⟩ : ∃ s6, s6 = askS s burst need := ⟨_, rfl⟩
            rw [← hs6'] at HS6 H6
            obtain ⟨v6, hv6⟩ : ∃ v6, v6 = v := ⟨_, rfl⟩
            rw [← hv6] at H6
            obtain ⟨u6, hu6⟩ : ∃ u6, u6 = u := ⟨_, rfl⟩
            rw [← hu6] at H6
            clear hs6 hs6' hv6 hu6 H5 c0 c1 c2 c3 HBC HAV
          case' neg =>
            have hk0' : (kd == 0) = false := by simp [hk0]
            clear hk0
            go_wp2_with fail
            have hbc := HBC.out
            have hsz : wr.heap.size < (wr.alloc (.cells #[.int .i64 kd, .int .u32 sn, .int .i64 at_, .slice A n c, .bool cf] 46)).heap.size := by simp
            have hBW := HB2.out.trans (hbc.bel.mono hw2)
            clear q1' q2' q3' q4' q5' HBC hBr
            generalize wr.alloc (.cells #[.int .i64 kd, .int .u32 sn, .int .i64 at_, .slice A n c, .bool cf] 46) = W at *
            generalize wr.heap.size = pb at *
            have c1 := hbc.p.cell 1 rfl
            have c2 := hbc.p.cell 2 rfl
            have c3 := hbc.p.cell 3 rfl
            have c4 := hbc.p.cell 4 rfl
            have HBC := Lib.hid hbc.drew
            have HBW := Lib.hid hBW.drew
            clear hbc hBW
            go_region_held3 (fun w' => w'.cell? ⟨pb, 1, none⟩ = some (.int .u32 sn) ∧ w'.cell? ⟨pb, 2, none⟩ = some (.int .i64 at_) ∧ w'.cell? ⟨pb, 3, none⟩ = some (.slice A n c) ∧ w'.cell? ⟨pb, 4, none⟩ = some (.bool cf)) (go_keep) (first
              | (go_at_call 16; ((with_reducible refine (HBC.out.come1' sn at_ A m n c cf HN.out (HY1.out.of_below HBW.out) y2 HL1.out HL2.out).mono ?_); rintro e w5 ⟨v5, rfl, h5⟩; have c1 := h5.p.cell 1 rfl; have c2 := h5.p.cell 2 rfl; have c3 := h5.p.cell 3 rfl; have c4 := h5.p.cell 4 rfl; have H5 := Lib.hid h5; clear h5))
              | (go_at_call 17; (with_reducible refine (H5.out.come2' sn at_ A m n c cf HN.out (HY1.out.of_below (HB2.out.trans (H5.out.bel.mono hw2))) y2 HL1.out HL2.out).mono ?_); rintro e W6 ⟨u6, rfl, h6⟩; have c1 := h6.p.cell 1 rfl; have c2 := h6.p.cell 2 rfl; have c3 := h6.p.cell 3 rfl; have c4 := h6.p.cell 4 rfl; have H6 := Lib.hid h6; clear h6))
            go_wp2
            have hs6 : (comeS s sn at_ m cf).data.length ≤ zn + pre K (k + 1) := by have h1 := come_len s sn at_ m cf; have h2 := HPP.out.1; have h3 := HN.out; omega
            have HS6 := Lib.hid hs6
            obtain ⟨s6, hs6'⟩ : ∃ s6, s6 = comeS s sn at_ m cf := ⟨_, rfl⟩
            rw [← hs6'] at HS6 H6
            clear hs6 hs6' H5 c1 c2 c3 c4 HBC HBW
          all_goals
            obtain ⟨a2, c2, rfl, hb2, -, -, -⟩ := H6.out.r.own.form
            clear hb2
            have r9 := H6.out.r9
            have cv := H6.out.drew.conv
            have hl6 : s6.data.length ≤ 100000 := by have h1 := HS6.out; have h2 := HPP.out.2; omega
            have HL6 := Lib.hid hl6
            clear hl6
            go_region_law (first
              | (go_simp; go_at_call 18; (with_reducible refine H6.out.drew.done1.mono ?_); rintro e w7 ⟨rfl, h7⟩; have r9 := h7.r9; have cv := h7.conv; have H7 := Lib.hid h7; clear h7)
              | (go_simp; go_at_call 19; (with_reducible refine H7.out.done2.mono ?_); rintro e w8 ⟨rfl, h8⟩; have r9 := h8.r9; have cv := h8.conv; have H8 := Lib.hid h8; clear h8)
              | (go_simp; go_at_call 20; (with_reducible refine (H8.out.data1 HL6.out).mono ?_); rintro e w9 ⟨x, rfl, ho, h9⟩; obtain ⟨a3, c3, rfl, hb3, -, -, -⟩ := ho.form; have r9 := h9.r9; have cv := h9.conv; have cv2 := conv_bytes (cap := c3) hb3 rfl; have H9 := Lib.hid h9; clear h9 ho hb3))
            all_goals
              go_wp2
              go_roundw
              case rel => exact ⟨k + 1, s6, _, _, _, _, _, by omega, by go_num, H9.out, HS6.out⟩
              case measure => simp [intOf]; omega
        · obtain rfl : k = len := by omega
          have hBr : Below w.heap.size w wr := HB2.out.trans (hbo.bel.mono hw2)
          clear hbo
          go_wp2
          go_ret
          exact ⟨rfl, hBr⟩
  · have hqB : decide (zn + pre K len ≤ 20000) = false := decide_eq_false hq
    go_wp2_with fail
    refine (light_any d0 d3 burst first need d1 d2 ready tog final zA zn zc a len cap K _ hz hK1 hlen).mono ?_
    rintro e w2 ⟨rfl, hb2⟩
    rw [hqB]
    have hB2 := hB1.trans (hb2.mono hB1.size)
    clear hP hb2 hB1 hK1 hzb1 p0 p1 p2 p3 p4 p5 p6 p7 p8 p9 p10 hqB
    go_wp2
    go_ret
    exact ⟨rfl, hB2⟩

end Go.Proofs.Ytjmpjdahkliheaa
