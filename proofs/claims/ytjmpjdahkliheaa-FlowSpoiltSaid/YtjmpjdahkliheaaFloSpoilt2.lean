/-
  flow: the law FlowSpoilt, walked.
-/
import Derived.Test.YtjmpjdahkliheaaFloSpoilt
namespace Go.Proofs.Ytjmpjdahkliheaa
set_option linter.unusedVariables false
set_option linter.unusedSimpArgs false
open Go.RowKit

def andC (K : Nat → CallD) (len : Nat) (C : CallD) : Nat → CallD := fun i => if i < len then K i else C
theorem pre_congr {K K' : Nat → CallD} : ∀ n, (∀ i, i < n → K i = K' i) → pre K n = pre K' n
  | 0, _ => rfl
  | n + 1, h => by
    simp only [pre]
    rw [pre_congr n (fun i hi => h i (by omega)), h n (by omega)]
theorem pre_andC (K : Nat → CallD) (len : Nat) (C : CallD) : pre (andC K len C) (len + 1) = pre K len + (1 + C.m.length) := by
  have h1 : pre (andC K len C) len = pre K len := pre_congr len fun i hi => by simp [andC, hi]
  have h2 : andC K len C len = C := by simp [andC]
  simp only [pre]
  rw [h1, h2]
/-- What a call's bytes are. -/
def BytC (w : World) (C : CallD) : Prop := IsBytes w C.A C.m ∧ (C.A = none → C.c = 0) ∧ C.m.length ≤ 140737488355328 ∧ (∀ x, C.A = some x → C.m ≠ [] → x.block < w.heap.size)
theorem BytC.below {w w' : World} {C : CallD} (h : BytC w C) (hb : Below w.heap.size w w') : BytC w' C :=
  ⟨h.1.of_below hb, h.2.1, h.2.2.1, fun x hx hn => Nat.lt_of_lt_of_le (h.2.2.2 x hx hn) hb.size⟩
theorem spoil_calls {w W : World} {base : Nat} {v : Value} {K : Nat → CallD} {a : Option Addr} {len : Nat} {C : CallD} (h : W.ownsRow base 46 5 v (len + 1) (cvl (kl K len) ++ cvl [C])) (hK : IsCalls w a len K) (hC : BytC w C) (hb : Below w.heap.size w W) :
    ∃ a' cap, v = .slice a' (len + 1) cap ∧ IsCalls W a' (len + 1) (andC K len C) := by
  have hl : (kl K len ++ [C]).length = len + 1 := by simp [kl]
  rw [← cvl_append] at h
  rw [← hl] at h ⊢
  refine calls_own h _ (fun i hi => ?_) (fun i hi => ?_)
  · rw [hl] at hi
    by_cases hlt : i < len
    · rw [List.getElem?_append_left (by rw [kl_len]; exact hlt), kl_get K len i hlt]
      simp [andC, hlt]
    · rw [List.getElem?_append_right (by rw [kl_len]; omega), kl_len]
      obtain rfl : i = len := by omega
      simp [andC]
  · rw [hl] at hi
    by_cases hlt : i < len
    · have : andC K len C i = K i := by simp [andC, hlt]
      rw [this]
      exact BytC.below (hK.byt i hlt) hb
    · have : andC K len C i = C := by simp [andC, hlt]
      rw [this]
      exact hC.below hb
theorem src_one {W : World} {b : Nat} {t : TypeId} {C : CallD} (h : IsBlk W b #[.int .i64 C.kd, .int .u32 C.sn, .int .i64 C.at_, .slice C.A C.m.length C.c, .bool C.fin] t) : Src W 5 (some ⟨b, 0, none⟩) 1 (cvl [C]) := by
  refine ⟨by simp [cvl], by simp, fun ad had j u hu => ?_⟩
  cases had
  rw [Go.WideShapes.add_plain, Nat.zero_add]
  match j, hu with
  | 0, hu => simp [cvl] at hu; subst hu; exact h.cell 0 rfl
  | 1, hu => simp [cvl] at hu; subst hu; exact h.cell 1 rfl
  | 2, hu => simp [cvl] at hu; subst hu; exact h.cell 2 rfl
  | 3, hu => simp [cvl] at hu; subst hu; exact h.cell 3 rfl
  | 4, hu => simp [cvl] at hu; subst hu; exact h.cell 4 rfl
  | j + 5, hu => simp [cvl] at hu
theorem cells11 {w : World} {b : Nat} {t : TypeId} {x0 x1 x2 x3 x4 x5 x6 x7 x8 x9 x10 : Value} (h : IsBlk w b #[x0, x1, x2, x3, x4, x5, x6, x7, x8, x9, x10] t) :
    w.cell? ⟨b, 0, none⟩ = some x0 ∧ w.cell? ⟨b, 1, none⟩ = some x1 ∧ w.cell? ⟨b, 2, none⟩ = some x2 ∧ w.cell? ⟨b, 3, none⟩ = some x3 ∧ w.cell? ⟨b, 4, none⟩ = some x4 ∧ w.cell? ⟨b, 5, none⟩ = some x5 ∧ w.cell? ⟨b, 6, none⟩ = some x6 ∧ w.cell? ⟨b, 7, none⟩ = some x7 ∧ w.cell? ⟨b, 8, none⟩ = some x8 ∧ w.cell? ⟨b, 9, none⟩ = some x9 ∧ w.cell? ⟨b, 10, none⟩ = some x10 :=
  ⟨h.cell 0 rfl, h.cell 1 rfl, h.cell 2 rfl, h.cell 3 rfl, h.cell 4 rfl, h.cell 5 rfl, h.cell 6 rfl, h.cell 7 rfl, h.cell 8 rfl, h.cell 9 rfl, h.cell 10 rfl⟩
theorem cells5 {w : World} {b : Nat} {t : TypeId} {x0 x1 x2 x3 x4 : Value} (h : IsBlk w b #[x0, x1, x2, x3, x4] t) :
    w.cell? ⟨b, 0, none⟩ = some x0 ∧ w.cell? ⟨b, 1, none⟩ = some x1 ∧ w.cell? ⟨b, 2, none⟩ = some x2 ∧ w.cell? ⟨b, 3, none⟩ = some x3 ∧ w.cell? ⟨b, 4, none⟩ = some x4 :=
  ⟨h.cell 0 rfl, h.cell 1 rfl, h.cell 2 rfl, h.cell 3 rfl, h.cell 4 rfl⟩

theorem row_slice {w : World} {base : Nat} {e : TypeId} {size n : Nat} {v : Value} {xs : List Value} (h : w.ownsRow base e size v n xs) : ∃ a c, v = .slice a n c := by
  rcases h.2 with ⟨rfl, h0⟩ | ⟨g, cap, cur, rfl, _⟩
  · exact ⟨none, 0, by rw [h0]⟩
  · exact ⟨_, _, rfl⟩
theorem row_base {w : World} {base : Nat} {e : TypeId} {size n : Nat} {v : Value} {xs : List Value} (h : w.ownsRow base e size v n xs) : ∀ k, v.ownBlock = some k → base ≤ k := by
  intro k hk
  rcases h.2 with ⟨rfl, _⟩ | ⟨g, cap, cur, rfl, hg, _⟩
  · simp [Value.ownBlock] at hk
  · simp [Value.ownBlock] at hk; omega
theorem light_is (d0 d3 burst first need : Int) (d1 d2 ready tog fin : Bool) (zA : Option Addr) (zn zc : Nat) (a : Option Addr) (len cap : Nat) (K : Nat → CallD) (w : World) (q : Bool) (hz : zn ≤ 140737488355328) (hK : IsCalls w a len K) (hlen : len ≤ 140737488355328) (hq : decide (zn + pre K len ≤ 20000) = q) :
    Calls Try.prog 11 #[.agg #[.int .i64 d0, .bool d1, .bool d2, .int .i64 d3, .int .i64 burst, .int .i64 first, .bool ready, .bool tog, .int .i64 need, .slice zA zn zc, .bool fin], .slice a len cap] w fun e w' => e = .returned (.bool q) ∧ Below w.heap.size w w' := by
  subst hq
  exact light_any d0 d3 burst first need d1 d2 ready tog fin zA zn zc a len cap K w hz hK hlen

theorem ask_shut' (s : FS) (burst need : Int) (h : okA s burst need = false) : askS s burst need = s ∧ askV s burst need = .tuple #[.int .u32 0, .agg #[.int .i64 0, .int .i64 0, .bool false], .bool false] := by
  simp [askS, askV, h]
theorem bad_come (s : FS) (h : s.bad = true) (sn at_ : Int) (m : List Nat) (f : Bool) : comeS s sn at_ m f = s ∧ okC s sn at_ m.length f = false := by
  obtain ⟨D, fin, sn', turn, bad⟩ := s
  simp only at h
  subst h
  simp [comeS, okC]
theorem bad_else (s : FS) (h : s.bad = true) (burst need : Int) : okA s burst need = false ∧ doneB s need = false := by
  simp [okA, doneB, h]
theorem bad_now (s : FS) (sn at_ : Int) (m : List Nat) (f : Bool) (h : okC s sn at_ m.length f = false) : (comeS s sn at_ m f).bad = true ∧ (comeS s sn at_ m f).data = s.data := by
  simp [comeS, h]

set_option maxHeartbeats 8000000 in
set_option maxRecDepth 100000 in
theorem spoilt_walk (d0 d3 burst first need : Int) (d1 d2 ready tog final : Bool) (zA : Option Addr) (zn zc : Nat) (zm : List Nat) (kd sn at_ : Int) (cA : Option Addr) (cm : List Nat) (cn cc : Nat) (cf : Bool) (a : Option Addr) (len cap : Nat) (K : Nat → CallD) (w : World)
    (HZ : Hid (zn = zm.length)) (hz : zn ≤ 140737488355328) (hzb : IsBytes w zA zm) (hz0 : zA = none → zc = 0) (HCN : Hid (cn = cm.length)) (hC : BytC w ⟨kd, sn, at_, cA, cm, cc, cf⟩) (hK : IsCalls w a len K) (hlen : len * 56 ≤ 140737488351232) (hca : a = none → cap = 0) (hn1 : need < 9223372036854775808) :
    Calls Try.prog 6 #[.agg #[.int .i64 d0, .bool d1, .bool d2, .int .i64 d3, .int .i64 burst, .int .i64 first, .bool ready, .bool tog, .int .i64 need, .slice zA zn zc, .bool final], .agg #[.int .i64 kd, .int .u32 sn, .int .i64 at_, .slice cA cn cc, .bool cf], .slice a len cap] w fun e w' => e = .returned (.bool true) ∧ Below w.heap.size w w' := by
  obtain ⟨i0, hi, hi1, hi2, hi3⟩ := info_parts Try.infoC
  have hcn := HCN.out
  subst hcn
  clear HCN
  have HI := Lib.hid (And.intro hi (And.intro hi1 (And.intro hi2 hi3)))
  clear hi hi1 hi2 hi3
  go_enter Try.func6, Try.ntmps6
  go_wp2_with fail
  have hW := ((Below.refl w.heap.size w).alloc (Nat.le_refl _) (.cells #[.int .i64 d0, .bool d1, .bool d2, .int .i64 d3, .int .i64 burst, .int .i64 first, .bool ready, .bool tog, .int .i64 need, .slice zA zn zc, .bool final] 35)).alloc (by simp) (.cells #[.int .i64 kd, .int .u32 sn, .int .i64 at_, .slice cA cm.length cc, .bool cf] 46)
  have hPz := (IsBlk.new w #[.int .i64 d0, .bool d1, .bool d2, .int .i64 d3, .int .i64 burst, .int .i64 first, .bool ready, .bool tog, .int .i64 need, .slice zA zn zc, .bool final] 35).alloc (.cells #[.int .i64 kd, .int .u32 sn, .int .i64 at_, .slice cA cm.length cc, .bool cf] 46)
  have hPc := IsBlk.new (w.alloc (.cells #[.int .i64 d0, .bool d1, .bool d2, .int .i64 d3, .int .i64 burst, .int .i64 first, .bool ready, .bool tog, .int .i64 need, .slice zA zn zc, .bool final] 35)) #[.int .i64 kd, .int .u32 sn, .int .i64 at_, .slice cA cm.length cc, .bool cf] 46
  simp only [World.size_alloc] at hPc
  refine (stands_any _).mono ?_
  rintro e w1 ⟨rfl, hb1⟩
  have hPz1 := hPz.below hb1 hPz.lt
  have hPc1 := hPc.below hb1 hPc.lt
  have hB1 := hW.trans (hb1.mono (by simp; omega))
  have hzl := hPz1.lt
  have hcl := hPc1.lt
  have HPZ := Lib.hid hPz1
  have HPC := Lib.hid hPc1
  have HB1 := Lib.hid hB1
  clear hPz hPc hW hb1 hPz1 hPc1 hB1
  obtain ⟨p0, p1, p2, p3, p4, p5, p6, p7, p8, p9, p10⟩ := cells11 HPZ.out
  obtain ⟨r0, r1, r2, r3, r4⟩ := cells5 HPC.out
  have hzi : w.heap.size ≠ w.heap.size + 1 := by omega
  generalize hzb' : w.heap.size + 1 = cb at *
  go_upto_region 3 with fail
  obtain ⟨q, hq⟩ : ∃ q, decide (zn + pre (andC K len ⟨kd, sn, at_, cA, cm, cc, cf⟩) (len + 1) ≤ 20000) = q := ⟨_, rfl⟩
  have HQ := Lib.hid hq
  have HC := Lib.hid hC
  have HKK := Lib.hid hK
  have HW1 := Lib.hid ((hK.below HB1.out))
  have HC1 := Lib.hid (hC.below HB1.out)
  have hzs := Nat.lt_succ_of_lt hzl
  have hcs := Nat.lt_succ_of_lt hcl
  clear hq hC hK
  go_region_held3 (fun w' => w'.cell? ⟨w.heap.size, 0, none⟩ = some (.int .i64 d0) ∧ w'.cell? ⟨w.heap.size, 1, none⟩ = some (.bool d1) ∧ w'.cell? ⟨w.heap.size, 2, none⟩ = some (.bool d2) ∧ w'.cell? ⟨w.heap.size, 3, none⟩ = some (.int .i64 d3) ∧ w'.cell? ⟨w.heap.size, 4, none⟩ = some (.int .i64 burst) ∧ w'.cell? ⟨w.heap.size, 5, none⟩ = some (.int .i64 first) ∧ w'.cell? ⟨w.heap.size, 6, none⟩ = some (.bool ready) ∧ w'.cell? ⟨w.heap.size, 7, none⟩ = some (.bool tog) ∧ w'.cell? ⟨w.heap.size, 8, none⟩ = some (.int .i64 need) ∧ w'.cell? ⟨w.heap.size, 9, none⟩ = some (.slice zA zn zc) ∧ w'.cell? ⟨w.heap.size, 10, none⟩ = some (.bool final) ∧
      w'.cell? ⟨cb, 0, none⟩ = some (.int .i64 kd) ∧ w'.cell? ⟨cb, 1, none⟩ = some (.int .u32 sn) ∧ w'.cell? ⟨cb, 2, none⟩ = some (.int .i64 at_) ∧ w'.cell? ⟨cb, 3, none⟩ = some (.slice cA cm.length cc) ∧ w'.cell? ⟨cb, 4, none⟩ = some (.bool cf) ∧ w.heap.size < w'.heap.size ∧ cb < w'.heap.size) (go_keep) (first
    | (refine step_append_src _ (by rfl) _ _ 36 (by rfl) w1.heap.size 46 i0 _ 5 56 Try.underlying36 HI.out.1 HI.out.2.1 HI.out.2.2.1 HI.out.2.2.2 (by rfl) (by decide) (.slice none 0 0) 0 [] (by rfl) (World.ownsRow_nil _ _ _ _) a len cap (cvl (kl K len)) (by rfl) (src_calls (HKK.out.below (HB1.out.alloc HB1.out.size _).drew)) hca (cvl_one _) (by unfold maxLen; omega) (by omega) (by simp) ?_; intro v1 W1 hown1 hg1 hm1; simp only [Nat.zero_add, List.nil_append] at hown1; obtain ⟨a1, c1, rfl⟩ := row_slice hown1; have hBK := (IsBlk.new w1 _ _).drew.grown hg1 (by simp [Value.ownBlock]); have HBK := Lib.hid hBK; clear hBK; have hbW := (((Below.refl w1.heap.size w1).alloc (Nat.le_refl _) _).drew).grown hg1 (by simp) (fun k hk => by simp [Value.ownBlock] at hk); have hPz1 := HPZ.out.below hbW HPZ.out.lt; have hPc1 := HPC.out.below hbW HPC.out.lt; have hzl := hPz1.lt; have hcl := hPc1.lt; obtain ⟨p0, p1, p2, p3, p4, p5, p6, p7, p8, p9, p10⟩ := cells11 hPz1; obtain ⟨r0, r1, r2, r3, r4⟩ := cells5 hPc1; have hzl' := Nat.lt_succ_of_lt hzl; have hcl' := Nat.lt_succ_of_lt hcl; have HO1 := Lib.hid hown1; have HBW1 := Lib.hid hbW; clear hown1 hg1 hm1 hbW hPz1 hPc1)
    | (refine step_append_src _ (by rfl) _ _ 36 (by rfl) w1.heap.size 46 i0 _ 5 56 Try.underlying36 HI.out.1 HI.out.2.1 HI.out.2.2.1 HI.out.2.2.2 (by rfl) (by decide) (.slice none 0 0) 0 [] (by rfl) (World.ownsRow_nil _ _ _ _) a len cap (cvl (kl K len)) (by rfl) (src_calls (HKK.out.below HB1.out.drew)) hca (cvl_one _) (by unfold maxLen; omega) (by omega) (by exact Nat.le_refl _) ?_; intro v1 W1 hown1 hg1 hm1;  simp only [Nat.zero_add, List.nil_append] at hown1; obtain ⟨a1, c1, rfl⟩ := row_slice hown1; have hbW := ((Below.refl w1.heap.size w1).drew).grown hg1 (Nat.le_refl _) (fun k hk => by simp [Value.ownBlock] at hk); have hPz1 := HPZ.out.below hbW HPZ.out.lt; have hPc1 := HPC.out.below hbW HPC.out.lt; have hzl := hPz1.lt; have hcl := hPc1.lt; obtain ⟨p0, p1, p2, p3, p4, p5, p6, p7, p8, p9, p10⟩ := cells11 hPz1; obtain ⟨r0, r1, r2, r3, r4⟩ := cells5 hPc1; have hzl' := Nat.lt_succ_of_lt hzl; have hcl' := Nat.lt_succ_of_lt hcl; have HO1 := Lib.hid hown1; have HBW1 := Lib.hid hbW; clear hown1 hg1 hm1 hbW hPz1 hPc1)
    | (refine step_append_src _ (by rfl) _ _ 36 (by rfl) w1.heap.size 46 i0 _ 5 56 Try.underlying36 HI.out.1 HI.out.2.1 HI.out.2.2.1 HI.out.2.2.2 (by rfl) (by decide) (.slice a1 _ c1) len (cvl (kl K len)) (by rfl) (HO1.out.alloc _) (some ⟨W1.heap.size, 0, none⟩) 1 1 (cvl [⟨kd, sn, at_, cA, cm, cc, cf⟩]) (by rfl) (src_one (IsBlk.new W1 _ _)) (by simp) (cvl_one _) (by unfold maxLen; omega) (by omega) (by have h1 := HBW1.out.size; simp; exact Nat.le_trans h1 (Nat.le_succ _)) ?_; intro v2 W2 hown2 hg2 hm2; have hbW := HBW1.out.trans (((Below.refl w1.heap.size W1).alloc HBW1.out.size _).grown hg2 (by have h1 := HBW1.out.size; simp; exact Nat.le_trans h1 (Nat.le_succ _)) (row_base HO1.out)); obtain ⟨a2, c2, rfl, hKK⟩ := spoil_calls hown2 HW1.out HC1.out hbW; have hPz1 := HPZ.out.below hbW HPZ.out.lt; have hPc1 := HPC.out.below hbW HPC.out.lt; have hzl := hPz1.lt; have hcl := hPc1.lt; obtain ⟨p0, p1, p2, p3, p4, p5, p6, p7, p8, p9, p10⟩ := cells11 hPz1; obtain ⟨r0, r1, r2, r3, r4⟩ := cells5 hPc1; have HK2 := Lib.hid hKK; have HBW2 := Lib.hid hbW; clear hown2 hg2 hm2 hbW hPz1 hPc1 hKK)
    | (refine step_append_src _ (by rfl) _ _ 36 (by rfl) w1.heap.size 46 i0 _ 5 56 Try.underlying36 HI.out.1 HI.out.2.1 HI.out.2.2.1 HI.out.2.2.2 (by rfl) (by decide) (.slice a1 _ c1) len (cvl (kl K len)) (by rfl) HO1.out (some ⟨w1.heap.size, 0, none⟩) 1 1 (cvl [⟨kd, sn, at_, cA, cm, cc, cf⟩]) (by rfl) (src_one HBK.out) (by simp) (cvl_one _) (by unfold maxLen; omega) (by omega) (by exact HBW1.out.size) ?_; intro v2 W2 hown2 hg2 hm2; have hbW := HBW1.out.trans ((Below.refl w1.heap.size W1).grown hg2 HBW1.out.size (row_base HO1.out)); obtain ⟨a2, c2, rfl, hKK⟩ := spoil_calls hown2 HW1.out HC1.out hbW; have hPz1 := HPZ.out.below hbW HPZ.out.lt; have hPc1 := HPC.out.below hbW HPC.out.lt; have hzl := hPz1.lt; have hcl := hPc1.lt; obtain ⟨p0, p1, p2, p3, p4, p5, p6, p7, p8, p9, p10⟩ := cells11 hPz1; obtain ⟨r0, r1, r2, r3, r4⟩ := cells5 hPc1; have HK2 := Lib.hid hKK; have HBW2 := Lib.hid hbW; clear hown2 hg2 hm2 hbW hPz1 hPc1 hKK)
    | (go_at_call 11; (with_reducible refine (light_is d0 d3 burst first need d1 d2 ready tog final zA zn zc a2 (len + 1) c2 (andC K len ⟨kd, sn, at_, cA, cm, cc, cf⟩) _ q hz HK2.out (by omega) HQ.out).mono ?_); rintro e w3 ⟨rfl, hb3⟩; have hbW := HBW2.out.trans (hb3.mono HBW2.out.size); have hPz1 := HPZ.out.below hbW HPZ.out.lt; have hPc1 := HPC.out.below hbW HPC.out.lt; have hzl := hPz1.lt; have hcl := hPc1.lt; obtain ⟨p0, p1, p2, p3, p4, p5, p6, p7, p8, p9, p10⟩ := cells11 hPz1; obtain ⟨r0, r1, r2, r3, r4⟩ := cells5 hPc1; have HPZ3 := Lib.hid hPz1; have HPC3 := Lib.hid hPc1; have HB3 := Lib.hid (HB1.out.trans (hbW.mono HB1.out.size)); clear hb3 hbW hPz1 hPc1))
  all_goals
    cases q with
    | false =>
      go_wp2
      go_ret
      exact ⟨rfl, HB3.out⟩
    | true =>
      have hq20 := of_decide_eq_true HQ.out
      rw [pre_andC] at hq20
      simp only at hq20
      have hzn : zn ≤ 20000 := by omega
      have hcm : cm.length ≤ 20000 := by omega
      have hpl : pre K len ≤ 20000 := by omega
      have HQ2 := Lib.hid (And.intro hzn (And.intro hcm hpl))
      clear hq20 hzn hcm hpl
      go_wp2_with fail
      cases hok : okN first need ready tog zm.length final with
      | false =>
        refine (new_any d0 d3 burst first need d1 d2 ready tog final zA zn zc zm _ HZ.out (hzb.of_below HB3.out) hz0 (by have := HQ2.out; omega) hn1 false hok).mono ?_
        rintro e w4 ⟨v, rfl, hb4, _⟩
        have hB4 := HB3.out.trans (hb4.mono HB3.out.size)
        clear hok hb4 p0 p1 p2 p3 p4 p5 p6 p7 p8 p9 p10 r0 r1 r2 r3 r4
        go_wp2
        go_ret
        exact ⟨rfl, hB4⟩
      | true =>
        refine (new_any d0 d3 burst first need d1 d2 ready tog final zA zn zc zm _ HZ.out (hzb.of_below HB3.out) hz0 (by have := HQ2.out; omega) hn1 true hok).mono ?_
        rintro e w4 ⟨v, rfl, hb4, hf4⟩
        replace hf4 := (hf4 rfl).mono HB3.out.size
        have hB4 := HB3.out.trans (hb4.mono HB3.out.size)
        have hPc4 := HPC3.out.below hb4 HPC3.out.lt
        clear hok p0 p1 p2 p3 p4 p5 p6 p7 p8 p9 p10 r0 r1 r2 r3 r4
        obtain ⟨r0, r1, r2, r3, r4⟩ := cells5 hPc4
        have hds : (newS first need zm final).data.length ≤ 100000 := by have h1 := HQ2.out.1; have h2 := HZ.out; simp [newS]; omega
        have H4 := Lib.hid hf4
        have HB4 := Lib.hid hB4
        have HDS := Lib.hid hds
        clear hf4 hB4 hb4 hPc4 hds
        obtain ⟨fb, hfb⟩ : ∃ fb, w3.heap.size + 1 = fb := ⟨_, rfl⟩
        rw [hfb] at H4
        rw [hfb]
        clear hfb
        generalize newS first need zm final = s0 at *
        go_wp2_with fail
        cases hoc : okC s0 sn at_ cm.length cf with
        | true =>
          refine (come_one H4.out (Since.refl _ _ _) sn at_ cA cm cm.length cc cf _ true rfl (HC.out.1.of_below HB4.out) HC.out.2.1 HDS.out (by have := HQ2.out; omega) rfl hoc).mono ?_
          rintro e w5 ⟨v5, rfl, h5, hS5⟩
          have hB5 := since_below HB4.out H4.out hS5
          clear h5 hS5 hoc r0 r1 r2 r3 r4
          go_wp2
          go_ret
          exact ⟨rfl, hB5⟩
        | false =>
          have hbd := bad_now s0 sn at_ cm cf hoc
          refine (come_one H4.out (Since.refl _ _ _) sn at_ cA cm cm.length cc cf _ false rfl (HC.out.1.of_below HB4.out) HC.out.2.1 HDS.out (by have := HQ2.out; omega) rfl hoc).mono ?_
          rintro e w5 ⟨v5, rfl, h5, hS5⟩
          have hB5 := since_below HB4.out H4.out hS5
          have hd1 : (comeS s0 sn at_ cm cf).data.length ≤ 100000 := by rw [hbd.2]; exact HDS.out
          have hb1 := hbd.1
          have H5 := Lib.hid h5
          have HB5 := Lib.hid hB5
          have HD1 := Lib.hid hd1
          have HBD := Lib.hid hb1
          clear h5 hS5 hoc r0 r1 r2 r3 r4 hbd hB5 hd1 hb1
          generalize comeS s0 sn at_ cm cf = s1 at *
          go_wp2
          go_loopw [56] (fun i wr => ∃ (k : Nat) (v : Value), k ≤ len ∧ i = .int .i64 k ∧ Hid (IsFlow wr w.heap.size fb v burst need s1) ∧ Hid (Below w.heap.size w wr)) (fun i _ => len - (intOf i).toNat)
          case atStart => exact ⟨0, v5, by omega, rfl, H5.out, HB5.out⟩
          case round =>
            clear H5 HB5
            obtain ⟨k, v, hk, rfl, HF, HB⟩ := hrel
            by_cases hlt : k < len
            · obtain ⟨b, off, rfl, hbl, hcs⟩ := HKK.out.at_.resolve_left (by omega)
              obtain ⟨q1, q2, q3, q4, q5⟩ := hcs k hlt
              have hy := HKK.out.byt k hlt
              have hp2 := pre_mono K (show k + 1 ≤ len by omega)
              have hp : pre K (k + 1) = pre K k + (1 + (K k).m.length) := rfl
              have hml : (K k).m.length ≤ 100000 := by have := HQ2.out; omega
              have q1' := (HB.out.cell (p := ⟨b, off + k * 5, none⟩) hbl).trans q1
              have q2' := (HB.out.cell (p := ⟨b, off + k * 5 + 1, none⟩) hbl).trans q2
              have q3' := (HB.out.cell (p := ⟨b, off + k * 5 + 2, none⟩) hbl).trans q3
              have q4' := (HB.out.cell (p := ⟨b, off + k * 5 + 3, none⟩) hbl).trans q4
              have q5' := (HB.out.cell (p := ⟨b, off + k * 5 + 4, none⟩) hbl).trans q5
              have HY := Lib.hid hy
              have HML := Lib.hid hml
              clear q1 q2 q3 q4 q5 hcs hy hp hp2 hml
              have hbc := bad_come s1 HBD.out (K k).sn (K k).at_ (K k).m (K k).fin
              have HBC := Lib.hid hbc
              clear hbc
              obtain ⟨n, hn⟩ : ∃ n, n = (K k).m.length := ⟨_, rfl⟩
              rw [← hn] at q4'
              have HNN := Lib.hid hn
              clear hn
              have h6 := HF.out.below ((Below.refl _ _).alloc (Nat.le_refl _) (.cells #[.int .i64 (K k).kd, .int .u32 (K k).sn, .int .i64 (K k).at_, .slice (K k).A n (K k).c, .bool (K k).fin] 46))
              have hB6 := HB.out.alloc HB.out.size (.cells #[.int .i64 (K k).kd, .int .u32 (K k).sn, .int .i64 (K k).at_, .slice (K k).A n (K k).c, .bool (K k).fin] 46)
              have H6 := Lib.hid h6
              have HB6 := Lib.hid hB6
              clear h6 hB6 HF HB
              go_wp2_with fail
              refine (come_one H6.out (Since.refl _ _ _) (K k).sn (K k).at_ (K k).A (K k).m n (K k).c (K k).fin _ false HNN.out (HY.out.1.of_below HB6.out) HY.out.2.1 HD1.out HML.out HBC.out.1 HBC.out.2).mono ?_
              rintro e w7 ⟨v7, rfl, h7, hS7⟩
              have hB7 := since_below HB6.out H6.out hS7
              have H7 := Lib.hid h7
              have HB7 := Lib.hid hB7
              clear h7 hS7 hB7 H6 HB6 q1' q2' q3' q4' q5'
              go_wp2
              go_roundw
              case rel => exact ⟨k + 1, v7, by omega, by go_num, H7.out, HB7.out⟩
              case measure => simp [intOf]; omega
            · have hbe := bad_else s1 HBD.out burst need
              have hsh := ask_shut' s1 burst need hbe.1
              have HSH := Lib.hid hsh
              have HBE := Lib.hid hbe
              clear hsh hbe
              go_wp2_with fail
              refine (ask_one HF.out (Since.refl _ _ _) _ _ _ _ _ HSH.out.1 HSH.out.2).mono ?_
              rintro e w6 ⟨rfl, h6, hS6⟩
              have hB6 := since_below HB.out HF.out hS6
              have h6a := h6.below ((Below.refl _ _).alloc (Nat.le_refl _) (.cells #[.int .i64 0, .int .i64 0, .bool false] 28))
              have hB6a := hB6.alloc hB6.size (.cells #[.int .i64 0, .int .i64 0, .bool false] 28)
              have H6 := Lib.hid h6a
              have HB6 := Lib.hid hB6a
              clear h6 hS6 hB6 h6a hB6a HF HB
              go_wp2_with fail
              generalize w6.alloc (.cells #[.int .i64 0, .int .i64 0, .bool false] 28) = w6a at *
              refine (ask_nil _).mono ?_
              rintro e w7 ⟨rfl, hb7⟩
              have h7 := (H6.out.below hb7).below ((Below.refl _ _).alloc (Nat.le_refl _) (.cells #[.int .i64 0, .int .i64 0, .bool false] 28))
              have hB7 := HB6.out.trans (hb7.mono HB6.out.size)
              have hB7a := hB7.alloc hB7.size (.cells #[.int .i64 0, .int .i64 0, .bool false] 28)
              have H7 := Lib.hid h7
              have HB7 := Lib.hid hB7a
              clear h7 hb7 hB7 hB7a H6 HB6
              go_wp2_with fail
              generalize w7.alloc (.cells #[.int .i64 0, .int .i64 0, .bool false] 28) = w7a at *
              refine (done_one H7.out (Since.refl _ _ _) false HBE.out.2).mono ?_
              rintro e w8 ⟨rfl, h8, hS8⟩
              have hB8 := since_below HB7.out H7.out hS8
              have HB8 := Lib.hid hB8
              clear h8 hS8 hB8
              go_wp2_with fail
              refine (done_nil _).mono ?_
              rintro e w9 ⟨rfl, nq, rfl⟩
              go_wp2_with fail
              refine (come_nil _).mono ?_
              rintro e w10 ⟨rfl, rfl⟩
              go_wp2_with fail
              refine (data_nil _).mono ?_
              rintro e w11 ⟨rfl, rfl⟩
              go_wp2
              go_ret
              exact ⟨rfl, HB8.out.drewN' nq⟩
theorem calls_reach {W : World} {a : Option Addr} {len cap : Nat} {d : D} (r : RdV Try.prog W 36 (.slice a len cap) d) : len * 56 ≤ 140737488351232 := by
  have hce : Try.prog.cellsOf 46 = 5 := by kernel_rfl
  have hby : Try.prog.bytesOf 46 = 56 := by kernel_rfl
  obtain ⟨a', len', cap', rows, he, h1, h2, h3, _⟩ := r.rows Try.underlying36 (by rw [hce]; decide)
  cases he
  rw [hby] at h3
  simp only [reachBytes] at h3
  omega
theorem flowSpoilt_any (v0 v1 v2 : Value) (D0 D1 D2 : D) (W : World) (r0 : RdV Try.prog W 35 v0 D0) (r1 : RdV Try.prog W 46 v1 D1) (r2 : RdV Try.prog W 36 v2 D2) :
    Calls Try.prog 6 #[v0, v1, v2] W fun e w' => e = .returned (.bool true) ∧ Below W.heap.size W w' := by
  obtain ⟨d0, d3, d4, d5, nd, d1, d2, d6, d7, f, zA, zm, zc, rfl, hz1, hz2, hz3, _, hn⟩ := rd_begin r0
  obtain ⟨a, len, cap, K, rfl, hK, hl, hca, _⟩ := rd_calls r2
  obtain ⟨cs, l, rfl, rfl, h⟩ := r1.struct Try.underlying46
  obtain ⟨C, hC, hb1, hb2, hb3, hb4⟩ := rd_call h
  have hcs : cs = #[.int .i64 C.kd, .int .u32 C.sn, .int .i64 C.at_, .slice C.A C.m.length C.c, .bool C.fin] := Array.toList_inj.1 (by rw [hC])
  subst hcs
  exact spoilt_walk d0 d3 d4 d5 nd d1 d2 d6 d7 f zA _ zc zm C.kd C.sn C.at_ C.A C.m _ C.c C.fin a len cap K W (Lib.hid rfl) hz3 hz1 hz2 (Lib.hid rfl) ⟨hb1, hb2, hb3, hb4⟩ hK (calls_reach r2) hca hn
end Go.Proofs.Ytjmpjdahkliheaa
