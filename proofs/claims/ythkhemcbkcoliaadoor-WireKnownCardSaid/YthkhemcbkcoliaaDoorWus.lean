/- WireUnframes: the walk. -/
import Derived.Test.YthkhemcbkcoliaaDoorRuf
import Derived.Test.YthkhemcbkcoliaaDoorUfr
import Derived.Test.YthkhemcbkcoliaaDoorWfs
namespace Go.Proofs.YthkhemcbkcoliaaDoor
set_option linter.unusedVariables false
set_option linter.unusedSimpArgs false
namespace Wire
open Go.RowKit Mem Apn Err Aps
def Er.fit : Er → Prop
  | .ok => True
  | .no k => 1 ≤ k ∧ k ≤ 24
  | .ref _ k => 1 ≤ k ∧ k ≤ 24
theorem num_fit (b : List Int) : Er.fit (num b).2.2 := by
  cases b with
  | nil => exact ⟨by decide, by decide⟩
  | cons c l =>
    rw [num_cons]
    (repeat' split) <;> simp [Er.fit]
theorem unf_fit (b : List Int) : Er.fit (unf b).2.2.2 ∧ (unf b).2.1.length ≤ 65536 := by
  obtain ⟨sz, m, e1, he⟩ : ∃ sz m e, num b = (sz, m, e) := ⟨_, _, _, rfl⟩
  have h1 := num_fit b
  rw [he] at h1
  by_cases hok : e1 = .ok
  · subst hok
    by_cases hs : 65536 < sz
    · rw [unf_many he hs]; exact ⟨⟨by decide, by decide⟩, by simp⟩
    · obtain ⟨y, q, e2, he2⟩ : ∃ y q e, num (b.drop m) = (y, q, e) := ⟨_, _, _, rfl⟩
      have h2 := num_fit (b.drop m)
      rw [he2] at h2
      by_cases hok2 : e2 = .ok
      · subst hok2
        rw [unf_good he hs he2]
        split
        · exact ⟨⟨by decide, by decide⟩, by simp⟩
        · split
          · exact ⟨trivial, by simp only [List.length_take]; omega⟩
          · exact ⟨⟨by decide, by decide⟩, by simp⟩
      · rw [unf_bad2 he hs he2 hok2]
        exact ⟨h2, by simp⟩
  · rw [unf_bad1 he hok]
    exact ⟨h1, by simp⟩
theorem plain_fit (e : Er) (h : e.fit) (w : World) (hg : Laid w) : Calls Tryd.prog 13 #[e.enc, .int .i64 e.code] w fun r w' => r = .returned (.bool true) ∧ Below w.heap.size w w' := by
  cases e with
  | ok => exact plain_ok w
  | no k =>
    have := plain_err _ _ k k w (isErr_errno k) h.1 h.2 hg
    rw [beq_self_eq_true] at this
    exact this
  | ref s k => exact plain_ref s k h.1 h.2 w hg
set_option maxHeartbeats 4000000 in
set_option maxRecDepth 100000 in
theorem unframes_walk (A : Option Addr) (n c : Nat) (b L : List Int) (X K : Nat) (ev : Value) (kk : Int) (w : World) (hg : Laid w) (hr : RdN w (fun k => k < w.heap.size) .u8 A n b) (hn : n ≤ 140737488355300) (hc : n ≤ c) (hL : L.length ≤ 1000000)
    (hF : ∀ (ok : Nat → Prop) A c W, n ≤ c → RdN W ok .u8 A n b → Calls Tryd.prog 10 #[.slice A n c] W fun e w' => ∃ v, e = .returned (.tuple #[.int .u64 X, v, .int .i64 K, ev]) ∧ OwnN w' W.heap.size 5 .u8 v L ∧ Below W.heap.size W w')
    (hR : ∀ (ok : Nat → Prop) A c W, n ≤ c → RdN W ok .u8 A n b → Calls Tryd.prog 29 #[.slice A n c] W fun e w' => ∃ v, e = .returned (.tuple #[.int .u64 X, v, .int .i64 K, .int .i64 kk]) ∧ OwnN w' W.heap.size 5 .u8 v L ∧ Below W.heap.size W w')
    (hP : ∀ W, Laid W → Calls Tryd.prog 13 #[ev, .int .i64 kk] W fun e w' => e = .returned (.bool true) ∧ Below W.heap.size W w') :
    Calls Tryd.prog 6 #[.slice A n c] w fun e w' => e = .returned (.bool true) ∧ Below w.heap.size w w' := by
  have HG := Held.mk hg
  have HF := Held.mk hF
  have HR := Held.mk hR
  have HP := Held.mk hP
  have HL := Held.mk hL
  have HN := Held.mk hn
  have HRd : Held (∀ W, Below w.heap.size w W → RdN W _ .u8 A n b) := ⟨fun W hB => RdV.keep hr (Keep.of_below hB (fun k => ¬ k < w.heap.size)) (fun k h h' => h' h)⟩
  have hnI : (n : Int) ≤ 140737488355300 := by omega
  clear hg hr hn hL hF hR hP
  go_enter Tryd.func6, Tryd.ntmps6
  go_wp2_with fail
  refine (HR.out _ A c w hc (HRd.out _ (Below.refl _ _))).mono ?_
  rintro e w1 ⟨v1, rfl, ho1, hb1⟩
  obtain ⟨A1, n1, c1, rfl, hn1, _, hr1⟩ := rd_own ho1
  have HB1 := Held.mk hb1
  have HR1 := Held.mk hr1
  clear ho1 hb1 hr1
  go_wp2_with fail
  refine (Kit.lent_any _ A n c b w1 (HRd.out _ HB1.out) HN.out).mono ?_
  rintro e w2 ⟨g, c2, rfl, hl2, hb2⟩
  have HLn := Held.mk hl2
  have HB12 := Held.mk hb2
  have hc2 : n ≤ c2 := by have := hl2.cap; omega
  clear hl2 hb2
  go_wp2_with fail
  refine (HF.out _ _ c2 w2 hc2 HLn.out.rd).mono ?_
  rintro e w3 ⟨v3, rfl, ho3, hb3⟩
  obtain ⟨A3, n3, c3, rfl, hn3, _, hr3⟩ := rd_own ho3
  have HB23 := Held.mk hb3
  have HO3 := Held.mk ho3
  have HR3 := Held.mk hr3
  have HLn3 := Held.mk (HLn.out.keep (Keep.of_below hb3 (fun _ => False)) (fun h => h))
  clear ho3 hb3 hr3
  go_wp2_with fail
  refine (HF.out _ _ c2 w3 hc2 HLn3.out.rd).mono ?_
  rintro e w4 ⟨v4, rfl, ho4, hb4⟩
  obtain ⟨A4, n4, c4, rfl, hn4, _, hr4⟩ := rd_own ho4
  have HB34 := Held.mk hb4
  have HB24 : Held (Below w2.heap.size w2 w4) := ⟨HB23.out.trans (hb4.mono HB23.out.size)⟩
  have HB14 : Held (Below w1.heap.size w1 w4) := ⟨HB12.out.trans (HB24.out.mono HB12.out.size)⟩
  have HB4 : Held (Below w.heap.size w w4) := ⟨HB1.out.trans (HB14.out.mono HB1.out.size)⟩
  have HO4 := Held.mk ho4
  have HR4 := Held.mk hr4
  clear ho4 hb4 hr4
  go_wp2_with fail
  refine (HP.out _ (HG.out.below HB4.out)).mono ?_
  rintro e w5 ⟨rfl, hb5⟩
  have HB45 := Held.mk hb5
  clear hb5
  go_wp2_with fail
  refine (HP.out _ (HG.out.below (HB4.out.trans (HB45.out.mono HB4.out.size)))).mono ?_
  rintro e w6 ⟨rfl, hb6⟩
  have HB46 : Held (Below w4.heap.size w4 w6) := ⟨HB45.out.trans (hb6.mono HB45.out.size)⟩
  clear hb6 HB45
  go_wp2_with fail
  refine (works_any w6).mono ?_
  rintro e w7 ⟨rfl, hb7⟩
  have HB47 : Held (Below w4.heap.size w4 w7) := ⟨HB46.out.trans (hb7.mono HB46.out.size)⟩
  have HS : Held (∀ m, RdN (w7.drewN m) _ .u8 A1 n1 L ∧ RdN (w7.drewN m) _ .u8 A3 n3 L ∧ RdN (w7.drewN m) _ .u8 A4 n4 L) := ⟨fun m => ⟨RdV.keep HR1.out (Keep.of_below (HB14.out.trans ((below_drwN HB47.out m).mono HB14.out.size)) (fun _ => False)) (fun _ _ h => h), RdV.keep HR3.out (Keep.of_below (HB34.out.trans ((below_drwN HB47.out m).mono HB34.out.size)) (fun _ => False)) (fun _ _ h => h), RdV.keep HR4.out (Keep.of_below (below_drwN HB47.out m) (fun _ => False)) (fun _ _ h => h)⟩⟩
  have h1l : n1 ≤ 9223372036854775807 := by have := hn1.out; have := HL.out; omega
  have h3l : n3 ≤ 9223372036854775807 := by have := hn3.out; have := HL.out; omega
  have h4l : n4 ≤ 9223372036854775807 := by have := hn4.out; have := HL.out; omega
  have hSa := Kit.same_any _ _ A3 A1 n3 n1 c3 c1 L L w7 (HS.out 0).2.1 (HS.out 0).1 h3l h1l
  rw [decide_eq_true rfl] at hSa
  have HSa := Held.mk hSa
  have HSb : Held (∀ m, Calls Tryd.prog 12 #[.slice A4 n4 c4, .slice A1 n1 c1] (w7.drewN m) fun e w' => e = .returned (.bool true) ∧ ∃ m', w' = (w7.drewN m).drewN m') := ⟨fun m => by
    have h := Kit.same_any _ _ A4 A1 n4 n1 c4 c1 L L (w7.drewN m) (HS.out m).2.2 (HS.out m).1 h4l h1l
    rw [decide_eq_true rfl] at h
    exact h⟩
  clear hb7 hSa h1l h3l h4l HB46 HS
  go_wp2_with fail
  refine HSa.out.mono ?_
  rintro e w8 ⟨rfl, m7, rfl⟩
  go_wp2_with fail
  refine (HSb.out m7).mono ?_
  rintro e w8 ⟨rfl, m8, rfl⟩
  have HB49 : Held (Below w4.heap.size w4 ((w7.drewN m7).drewN m8)) := ⟨below_drwN (below_drwN HB47.out _) _⟩
  clear HSa HSb HB47
  generalize (w7.drewN m7).drewN m8 = w9 at *
  have HB29 : Held (Below w2.heap.size w2 w9) := ⟨HB24.out.trans (HB49.out.mono HB24.out.size)⟩
  have HB9 : Held (Below w.heap.size w w9) := ⟨HB4.out.trans (HB49.out.mono HB4.out.size)⟩
  have HK1 := Held.mk (Kit.kept_any _ A w1.heap.size g n c2 c b w9 (HLn.out.keep (Keep.of_below HB29.out (fun _ => False)) (fun h => h)) (HRd.out _ HB9.out) HN.out)
  go_wp2_with fail
  refine HK1.out.mono ?_
  rintro e wa ⟨rfl, ma, rfl⟩
  have HBa : Held (Below w4.heap.size w4 (w9.drewN ma)) := ⟨below_drwN HB49.out ma⟩
  clear HK1 HB49 HB29 HB9
  generalize w9.drewN ma = wa at *
  have HB3a : Held (Below w3.heap.size w3 wa) := ⟨HB34.out.trans (HBa.out.mono HB34.out.size)⟩
  have HB2a : Held (Below w2.heap.size w2 wa) := ⟨HB24.out.trans (HBa.out.mono HB24.out.size)⟩
  have HBwa : Held (Below w.heap.size w wa) := ⟨HB4.out.trans (HBa.out.mono HB4.out.size)⟩
  have HAp := Held.mk (apart_two w2 w3 wa HB23.out.size (.slice A3 n3 c3) (.slice A4 n4 c4) L L ((Keep.of_below HB3a.out (fun _ => False)).own HO3.out (fun _ _ h => h)) (fun k hk => own_lt HO3.out k hk) ((Keep.of_below HBa.out (fun _ => False)).own HO4.out (fun _ _ h => h)) rfl HL.out HB2a.out.size)
  go_wp2_with fail
  refine HAp.out.mono ?_
  rintro e wb ⟨rfl, hkb⟩
  have HT : Held (∀ k, ((Value.slice A3 n3 c3).ownBlock = some k ∨ (Value.slice A4 n4 c4).ownBlock = some k) → w2.heap.size ≤ k) := ⟨fun k h => by
    rcases h with h | h
    · exact own_ge HO3.out k h
    · have := own_ge HO4.out k h
      have := HB23.out.size
      omega⟩
  have HB2b : Held (Below w2.heap.size w2 wb) := ⟨((Keep.of_below (HB2a.out.alloc HB2a.out.size (.cells #[.slice A3 n3 c3, .slice A4 n4 c4] 23)) (fun _ => False)).then hkb (fun k hk h => absurd hk (Nat.not_lt.2 (HT.out k h)))).to_below (fun _ _ h => h)⟩
  have HBb : Held (Below w.heap.size w wb) := ⟨(HB1.out.trans (HB12.out.mono HB1.out.size)).trans (HB2b.out.mono (HB1.out.trans (HB12.out.mono HB1.out.size)).size)⟩
  have HK2 := Held.mk (Kit.kept_any _ A w1.heap.size g n c2 c b wb (HLn.out.keep (Keep.of_below HB2b.out (fun _ => False)) (fun h => h)) (HRd.out _ HBb.out) HN.out)
  clear hkb HAp
  go_wp2_with fail
  refine HK2.out.mono ?_
  rintro e wc ⟨rfl, mc, rfl⟩
  go_wp2
  go_ret
  exact ⟨rfl, below_drwN HBb.out mc⟩
theorem unframes_any (A1 : Option Addr) (n1 c1 : Nat) (b : List Int) (w : World) (hg : Laid w) (hr1 : RdN w (fun k => k < w.heap.size) .u8 A1 n1 b)
    (hb1 : ∀ x ∈ b, (Lit.int .u8 x).wf = true) (hn : n1 ≤ 140737488355300) (hc : n1 ≤ c1) :
    Calls Tryd.prog 6 #[.slice A1 n1 c1] w fun e w' => e = .returned (.bool true) ∧ Below w.heap.size w w' := by
  have hf := unf_fit b
  exact unframes_walk A1 n1 c1 b (unf b).2.1 (unf b).1 (unf b).2.2.1 (unf b).2.2.2.enc (unf b).2.2.2.code w hg hr1 hn hc (by omega)
    (fun ok A c W hc hr => unframe_any ok A n1 c b W hr hc (by omega) (bytesW hb1))
    (fun ok A c W hc hr => runframe_any ok A n1 c b W hr hc (by omega) (bytesW hb1))
    (fun W hW => plain_fit _ hf.1 W hW)
end Wire
end Go.Proofs.YthkhemcbkcoliaaDoor
