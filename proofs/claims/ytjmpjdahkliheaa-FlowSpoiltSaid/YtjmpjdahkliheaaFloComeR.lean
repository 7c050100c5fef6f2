/-
  flow: Come, of the reference.
-/
import Derived.Test.YtjmpjdahkliheaaFloState
namespace Go.Proofs.Ytjmpjdahkliheaa
set_option linter.unusedVariables false
set_option linter.unusedSimpArgs false
open Go.RowKit

section
variable {w : World} {base fb : Nat} {v : Value} {burst need : Int} {s : FS}

set_option maxHeartbeats 4000000 in
theorem comeR_walk (D : List Nat) (fin sn' turn : Int) (bad : Bool) (sn at_ : Int) (A : Option Addr) (m : List Nat) (c : Nat) (final : Bool) (cs : Array Value) (Q : Ending → World → Prop)
    (hk : IsBlk w fb cs 54) (c9 : cs[9]? = some v) (c10 : cs[10]? = some (.int .i64 fin)) (c11 : cs[11]? = some (.int .u32 sn')) (c12 : cs[12]? = some (.int .u32 turn)) (c13 : cs[13]? = some (.bool bad))
    (ho : Own w base v D) (hn : v.ownBlock ≠ some fb) (hsn0 : 0 ≤ sn') (hsn1 : sn' < 4294967296) (ht0 : 0 ≤ turn)
    (n : Nat) (HL : Hid (n = m.length)) (hm : IsBytes w A m) (hc0 : A = none → c = 0) (hl1 : D.length ≤ 100000) (hl2 : n ≤ 100000) (hbase : base ≤ w.heap.size)
    (HS : Hid (bad = true → Q (.returned (.bool false)) w))
    (HB : Hid (bad = false → okC ⟨D, fin, sn', turn, bad⟩ sn at_ m.length final = false → Q (.returned (.bool false)) (w.setCell ⟨fb, 13, none⟩ (.bool true))))
    (HT : Hid (okC ⟨D, fin, sn', turn, bad⟩ sn at_ m.length final = true → final = true → ∀ v' w1, Own w1 base v' (D ++ m) → w.grownBy w1 v.ownBlock → Moved w v v' → Q (.returned (.bool true)) ((((w1.setCell ⟨fb, 9, none⟩ v').setCell ⟨fb, 11, none⟩ (.int .u32 ((sn' + 1) % 4294967296))).setCell ⟨fb, 10, none⟩ (.int .i64 (-1))).setCell ⟨fb, 11, none⟩ (.int .u32 0))))
    (HF : Hid (okC ⟨D, fin, sn', turn, bad⟩ sn at_ m.length final = true → final = false → ∀ v' w1, Own w1 base v' (D ++ m) → w.grownBy w1 v.ownBlock → Moved w v v' → Q (.returned (.bool true)) ((w1.setCell ⟨fb, 9, none⟩ v').setCell ⟨fb, 11, none⟩ (.int .u32 ((sn' + 1) % 4294967296))))) :
    Calls Try.prog 17 #[.pointer (some ⟨fb, 0, none⟩), .int .u32 sn, .int .i64 at_,   .slice A n c, .bool final] w Q := by
  have HN := Lib.hid hn
  have HO := Lib.hid ho
  obtain ⟨a, cap, rfl, hbs, hcap, hcm, hab⟩ := ho.form
  unfold maxLen at hcm
  have HK := Lib.hid hk
  have HC := Lib.hid (And.intro c9 (And.intro c10 c11))
  have e9 := hk.cell 9 c9
  have e10 := hk.cell 10 c10
  have e11 := hk.cell 11 c11
  have e12 := hk.cell 12 c12
  have e13 := hk.cell 13 c13
  have hfz := hk.fz
  clear ho hn hab c9 c10 c11 c12 c13 hk
  cases bad with
  | true =>
    clear HB HT HF
    go_enter Try.func17, Try.ntmps17
    go_wp2
    exact HS.out (by simp)
  | false =>
    clear HS
    go_enter Try.func17, Try.ntmps17
    go_wp2_with (first
        | (at_builtin; refine wpList_app' rfl (.tmp 88) (.tmp 89) rfl base (.slice a D.length cap) D rfl HO.out A _ c m rfl (by have := HL.out; omega) hm hc0 (by have := HL.out; omega) hbase ?_; intro v' w1 ho1 hb1 hg1 hv1; obtain ⟨a2, len2, cap2, rfl, hlen2⟩ := ho1.slice; have hk1 := HK.out.grown hg1 HN.out; have f9 := hk1.cell 9 HC.out.1; have f10 := hk1.cell 10 HC.out.2.1; have f11 := hk1.cell 11 HC.out.2.2; have hfz1 := hk1.fz; clear hk1; have HO1 := Lib.hid ho1; have HG1 := Lib.hid hg1; have HV1 := Lib.hid hv1; clear ho1 hb1 hg1 hv1)
        | go_in)
    all_goals have hL := HL.out
    all_goals subst hL
    all_goals clear HL HN HO HK HC hbs hm hc0 hfz e9 e10 e11 e12 e13 hl1 hl2 hcap hcm
    all_goals first
        | (refine HB.out (by simp) (okC_not fun hh => ?_); clear HB HT HF; cases final <;> simp_all <;> omega)
        | (refine HT.out ((okC_iff ..).2 ?_) (by assumption) _ _ HO1.out HG1.out HV1.out; clear HB HT HF HO1 HG1 HV1; cases final <;> simp_all <;> omega)
        | (refine HF.out ((okC_iff ..).2 ?_) (by first | assumption | simpa using ‹¬ final = true›) _ _ HO1.out HG1.out HV1.out; clear HB HT HF HO1 HG1 HV1; cases final <;> simp_all <;> omega)
        | skip
    go_ways
end
end Go.Proofs.Ytjmpjdahkliheaa
