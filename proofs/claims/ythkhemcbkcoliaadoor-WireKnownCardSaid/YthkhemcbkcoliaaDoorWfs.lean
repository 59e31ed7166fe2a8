/- WireFrames: the walk. -/
import Derived.Test.YthkhemcbkcoliaaDoorRfm
import Derived.Test.YthkhemcbkcoliaaDoorApb
import Derived.Test.YthkhemcbkcoliaaDoorKept
import Derived.Test.YthkhemcbkcoliaaDoorWorks
import Derived.Test.YthkhemcbkcoliaaDoorErP
namespace Go.Proofs.YthkhemcbkcoliaaDoor
set_option linter.unusedVariables false
set_option linter.unusedSimpArgs false
namespace Wire
open Go.RowKit Mem Apn Err Aps
/-- Two rows of bytes of one's own, one behind the other, and then what is laid over them: they are apart. -/
theorem apart_two (wb wm W : World) (hbm : wb.heap.size ≤ wm.heap.size) (v1 v2 : Value) (L1 L2 : List Int) (h1 : OwnN W wb.heap.size 5 .u8 v1 L1) (h1l : ∀ k, v1.ownBlock = some k → k < wm.heap.size) (h2 : OwnN W wm.heap.size 5 .u8 v2 L2)
    (hl : L1.length = L2.length) (hL : L1.length ≤ 1000000) (hbW : wb.heap.size ≤ W.heap.size) :
    Calls Tryd.prog 28 #[.slice (some ⟨W.heap.size, 0, none⟩) 2 2] (W.alloc (.cells #[v1, v2] 23)) fun e w' => e = .returned (.bool true) ∧ Keep (fun k => v1.ownBlock = some k ∨ v2.ownBlock = some k) (W.alloc (.cells #[v1, v2] 23)) w' := by
  have hr := rd_lit W [v1, v2] 1 2 23 rfl
  have hO : ∀ b, Tch (two_ v1 v2) 2 b → ¬ b = W.heap.size := by
    intro b h e
    subst e
    rcases two_tch h with h | h
    · have := own_lt h1 _ h
      omega
    · have := own_lt h2 _ h
      omega
  refine (AptBytes.apart_in wb.heap.size 2 _ 2 (two_ v1 v2) (fun _ => L1.length) (fun b => b = W.heap.size) _ hr (by simp; omega) ?_ (two_fst fun b h3 h4 => by have := h1l b h3; have := own_ge h2 b h4; omega) hO (by omega) (fun _ => by omega)).mono ?_
  · intro j hj
    have hc : j = 0 ∨ j = 1 := by omega
    rcases hc with rfl | rfl
    · exact ⟨_, World.ownsRow.alloc h1 _⟩
    · have h3 := World.ownsRow.alloc (own_rebase h2 (base' := wb.heap.size) (fun k hk => by have := own_ge h2 k hk; omega)) (.cells #[v1, v2] 23)
      rw [← hl] at h3
      exact ⟨_, h3⟩
  rintro e w' ⟨rfl, hk⟩
  exact ⟨rfl, hk.mono (fun b _ h => two_tch h)⟩
set_option maxHeartbeats 4000000 in
set_option maxRecDepth 100000 in
theorem frames_walk (x : Nat) (A : Option Addr) (n c : Nat) (ps L : List Int) (ev : Value) (kk : Int) (w : World) (hg : Laid w) (hr : RdN w (fun k => k < w.heap.size) .u8 A n ps) (hn : n ≤ 140737488355300) (hL : L.length ≤ 1000000)
    (hF : ∀ (ok : Nat → Prop) A c W, RdN W ok .u8 A n ps → Calls Tryd.prog 9 #[.int .u64 x, .slice A n c] W fun e w' => ∃ v, e = .returned (.tuple #[v, ev]) ∧ OwnN w' W.heap.size 5 .u8 v L ∧ Below W.heap.size W w')
    (hR : ∀ (ok : Nat → Prop) A c W, RdN W ok .u8 A n ps → Calls Tryd.prog 27 #[.int .u64 x, .slice A n c] W fun e w' => ∃ v, e = .returned (.tuple #[v, .int .i64 kk]) ∧ OwnN w' W.heap.size 5 .u8 v L ∧ Below W.heap.size W w')
    (hP : ∀ W, Laid W → Calls Tryd.prog 13 #[ev, .int .i64 kk] W fun e w' => e = .returned (.bool true) ∧ Below W.heap.size W w') :
    Calls Tryd.prog 5 #[.int .u64 x, .slice A n c] w fun e w' => e = .returned (.bool true) ∧ Below w.heap.size w w' := by
  have HG := Held.mk hg
  have HF := Held.mk hF
  have HR := Held.mk hR
  have HP := Held.mk hP
  have HL := Held.mk hL
  have HN := Held.mk hn
  have HRd : Held (∀ W, Below w.heap.size w W → RdN W _ .u8 A n ps) := ⟨fun W hB => RdV.keep hr (Keep.of_below hB (fun k => ¬ k < w.heap.size)) (fun k h h' => h' h)⟩
  have hnI : (n : Int) ≤ 140737488355300 := by omega
  clear hg hr hn hL hF hR hP
  go_enter Tryd.func5, Tryd.ntmps5
  go_wp2_with fail
  refine (HR.out _ A c w (HRd.out _ (Below.refl _ _))).mono ?_
  rintro e w1 ⟨v1, rfl, ho1, hb1⟩
  obtain ⟨A1, n1, c1, rfl, hn1, _, hr1⟩ := rd_own ho1
  have HB1 := Held.mk hb1
  have HR1 := Held.mk hr1
  clear ho1 hb1 hr1
  go_wp2_with fail
  refine (Kit.lent_any _ A n c ps w1 (HRd.out _ HB1.out) HN.out).mono ?_
  rintro e w2 ⟨g, c2, rfl, hl2, hb2⟩
  have HLn := Held.mk hl2
  have HB12 := Held.mk hb2
  have hg2 := own_lt hl2.own g rfl
  have HG2 : Held (g < w2.heap.size) := ⟨hg2⟩
  have HG1 : Held (w1.heap.size ≤ g) := ⟨hl2.ge⟩
  clear hl2 hb2 hg2
  go_wp2_with fail
  refine (HF.out _ _ c2 w2 HLn.out.rd).mono ?_
  rintro e w3 ⟨v3, rfl, ho3, hb3⟩
  obtain ⟨A3, n3, c3, rfl, hn3, _, hr3⟩ := rd_own ho3
  have HB23 := Held.mk hb3
  have HO3 := Held.mk ho3
  have HR3 := Held.mk hr3
  have HLn3 := Held.mk (HLn.out.keep (Keep.of_below hb3 (fun _ => False)) (fun h => h))
  clear ho3 hb3 hr3
  go_wp2_with fail
  refine (HF.out _ _ c2 w3 HLn3.out.rd).mono ?_
  rintro e w4 ⟨v4, rfl, ho4, hb4⟩
  obtain ⟨A4, n4, c4, rfl, hn4, _, hr4⟩ := rd_own ho4
  have HB34 := Held.mk hb4
  have HB24 : Held (Below w2.heap.size w2 w4) := ⟨HB23.out.trans (hb4.mono HB23.out.size)⟩
  have HB14 : Held (Below w1.heap.size w1 w4) := ⟨HB12.out.trans (HB24.out.mono HB12.out.size)⟩
  have HB4 : Held (Below w.heap.size w w4) := ⟨HB1.out.trans (HB14.out.mono HB1.out.size)⟩
  have HO4 := Held.mk ho4
  have HR4 := Held.mk hr4
  clear ho4 hb4 hr4
  go_wp2_with fail
  refine (HP.out _ (HG.out.below HB4.out)).mono ?_
  rintro e w5 ⟨rfl, hb5⟩
  have HB45 := Held.mk hb5
  clear hb5
  go_wp2_with fail
  refine (HP.out _ (HG.out.below (HB4.out.trans (HB45.out.mono HB4.out.size)))).mono ?_
  rintro e w6 ⟨rfl, hb6⟩
  have HB46 : Held (Below w4.heap.size w4 w6) := ⟨HB45.out.trans (hb6.mono HB45.out.size)⟩
  have HS : Held (∀ m, RdN (w6.drewN m) _ .u8 A1 n1 L ∧ RdN (w6.drewN m) _ .u8 A3 n3 L ∧ RdN (w6.drewN m) _ .u8 A4 n4 L) := ⟨fun m => ⟨RdV.keep HR1.out (Keep.of_below (HB14.out.trans ((below_drwN HB46.out m).mono HB14.out.size)) (fun _ => False)) (fun _ _ h => h), RdV.keep HR3.out (Keep.of_below (HB34.out.trans ((below_drwN HB46.out m).mono HB34.out.size)) (fun _ => False)) (fun _ _ h => h), RdV.keep HR4.out (Keep.of_below (below_drwN HB46.out m) (fun _ => False)) (fun _ _ h => h)⟩⟩
  have h1l : n1 ≤ 9223372036854775807 := by have := hn1.out; have := HL.out; omega
  have h3l : n3 ≤ 9223372036854775807 := by have := hn3.out; have := HL.out; omega
  have h4l : n4 ≤ 9223372036854775807 := by have := hn4.out; have := HL.out; omega
  have hSa := Kit.same_any _ _ A3 A1 n3 n1 c3 c1 L L w6 (HS.out 0).2.1 (HS.out 0).1 h3l h1l
  rw [decide_eq_true rfl] at hSa
  have HSa := Held.mk hSa
  have HSb : Held (∀ m, Calls Tryd.prog 12 #[.slice A4 n4 c4, .slice A1 n1 c1] (w6.drewN m) fun e w' => e = .returned (.bool true) ∧ ∃ m', w' = (w6.drewN m).drewN m') := ⟨fun m => by
    have h := Kit.same_any _ _ A4 A1 n4 n1 c4 c1 L L (w6.drewN m) (HS.out m).2.2 (HS.out m).1 h4l h1l
    rw [decide_eq_true rfl] at h
    exact h⟩
  clear hb6 hSa h1l h3l h4l HB45 HS
  go_wp2_with fail
  refine HSa.out.mono ?_
  rintro e w7 ⟨rfl, m7, rfl⟩
  go_wp2_with fail
  refine (HSb.out m7).mono ?_
  rintro e w7 ⟨rfl, m8, rfl⟩
  have HB48 : Held (Below w4.heap.size w4 ((w6.drewN m7).drewN m8)) := ⟨below_drwN (below_drwN HB46.out _) _⟩
  clear HSa HSb HB46
  generalize (w6.drewN m7).drewN m8 = w8 at *
  go_wp2_with fail
  refine (works_any w8).mono ?_
  rintro e w9 ⟨rfl, hb9⟩
  have HB49 : Held (Below w4.heap.size w4 w9) := ⟨HB48.out.trans (hb9.mono HB48.out.size)⟩
  have HB29 : Held (Below w2.heap.size w2 w9) := ⟨HB24.out.trans (HB49.out.mono HB24.out.size)⟩
  have HB9 : Held (Below w.heap.size w w9) := ⟨HB4.out.trans (HB49.out.mono HB4.out.size)⟩
  have HK1 := Held.mk (Kit.kept_any _ A w1.heap.size g n c2 c ps w9 (HLn.out.keep (Keep.of_below HB29.out (fun _ => False)) (fun h => h)) (HRd.out _ HB9.out) HN.out)
  clear hb9 HB48
  go_wp2_with fail
  refine HK1.out.mono ?_
  rintro e wa ⟨rfl, ma, rfl⟩
  have HBa : Held (Below w4.heap.size w4 (w9.drewN ma)) := ⟨below_drwN HB49.out ma⟩
  clear HK1 HB49 HB29 HB9
  generalize w9.drewN ma = wa at *
  have HB3a : Held (Below w3.heap.size w3 wa) := ⟨HB34.out.trans (HBa.out.mono HB34.out.size)⟩
  have HB2a : Held (Below w2.heap.size w2 wa) := ⟨HB24.out.trans (HBa.out.mono HB24.out.size)⟩
  have HBwa : Held (Below w.heap.size w wa) := ⟨HB4.out.trans (HBa.out.mono HB4.out.size)⟩
  have HAp := Held.mk (apart_two w2 w3 wa HB23.out.size (.slice A3 n3 c3) (.slice A4 n4 c4) L L ((Keep.of_below HB3a.out (fun _ => False)).own HO3.out (fun _ _ h => h)) (fun k hk => own_lt HO3.out k hk) ((Keep.of_below HBa.out (fun _ => False)).own HO4.out (fun _ _ h => h)) rfl HL.out HB2a.out.size)
  go_wp2_with fail
  refine HAp.out.mono ?_
  rintro e wb ⟨rfl, hkb⟩
  have HT : Held (∀ k, ((Value.slice A3 n3 c3).ownBlock = some k ∨ (Value.slice A4 n4 c4).ownBlock = some k) → w2.heap.size ≤ k) := ⟨fun k h => by
    rcases h with h | h
    · exact own_ge HO3.out k h
    · have := own_ge HO4.out k h
      have := HB23.out.size
      omega⟩
  have HB2b : Held (Below w2.heap.size w2 wb) := ⟨((Keep.of_below (HB2a.out.alloc HB2a.out.size (.cells #[.slice A3 n3 c3, .slice A4 n4 c4] 23)) (fun _ => False)).then hkb (fun k hk h => absurd hk (Nat.not_lt.2 (HT.out k h)))).to_below (fun _ _ h => h)⟩
  have HBb : Held (Below w.heap.size w wb) := ⟨(HB1.out.trans (HB12.out.mono HB1.out.size)).trans (HB2b.out.mono (HB1.out.trans (HB12.out.mono HB1.out.size)).size)⟩
  have HK2 := Held.mk (Kit.kept_any _ A w1.heap.size g n c2 c ps wb (HLn.out.keep (Keep.of_below HB2b.out (fun _ => False)) (fun h => h)) (HRd.out _ HBb.out) HN.out)
  clear hkb HAp
  go_wp2_with fail
  refine HK2.out.mono ?_
  rintro e wc ⟨rfl, mc, rfl⟩
  go_wp2
  go_ret
  exact ⟨rfl, below_drwN HBb.out mc⟩
theorem plain_ref (s : ByteArray) (k : Int) (h1 : 1 ≤ k) (h2 : k ≤ 24) (w : World) (hg : Laid w) : Calls Tryd.prog 13 #[Er.enc (.ref s k), .int .i64 k] w fun e w' => e = .returned (.bool true) ∧ Below w.heap.size w w' := by
  have := plain_err _ _ k k w (isErr_wrong s k) h1 h2 hg
  rw [beq_self_eq_true] at this
  exact this
theorem plain_ok (w : World) : Calls Tryd.prog 13 #[.nilIface, .int .i64 0] w fun e w' => e = .returned (.bool true) ∧ Below w.heap.size w w' := plain_nil 0 w
theorem bytesW {l : List Int} (h : ∀ x ∈ l, (Lit.int .u8 x).wf = true) : Byt l := fun c hc => by
  have := h c hc
  simp [Lit.wf, IntKind.min, IntKind.max, IntKind.signed, IntKind.bits] at this
  omega
theorem frames_any (a0 : Int) (A1 : Option Addr) (n1 c1 : Nat) (ps : List Int) (w : World) (hg : Laid w) (hx : (Lit.int .u64 a0).wf = true) (hr1 : RdN w (fun k => k < w.heap.size) .u8 A1 n1 ps)
    (hb1 : ∀ x ∈ ps, (Lit.int .u8 x).wf = true) (hn : n1 ≤ 140737488355300) :
    Calls Tryd.prog 5 #[.int .u64 a0, .slice A1 n1 c1] w fun e w' => e = .returned (.bool true) ∧ Below w.heap.size w w' := by
  obtain ⟨h0, hU⟩ := wf_u64 hx
  obtain ⟨x, rfl⟩ : ∃ x : Nat, a0 = (x : Int) := ⟨a0.toNat, by omega⟩
  rw [Int.toNat_natCast] at hU
  have hlen := hr1.len
  by_cases hm : 65536 < n1
  · refine frames_walk x A1 n1 c1 ps [] (Er.enc (.ref wPayload 5)) 5 w hg hr1 hn (by simp) ?_ ?_ (fun W hW => plain_ref _ 5 (by decide) (by decide) W hW)
    · intro ok A c W _
      refine (frame_no x A n1 c W hm).mono ?_
      rintro e w' ⟨rfl, rfl⟩
      exact ⟨_, rfl, own_nil _ _ _ _, Below.refl _ _⟩
    · intro ok A c W _
      refine (rframe_no x A n1 c W hm).mono ?_
      rintro e w' ⟨rfl, rfl⟩
      exact ⟨_, rfl, own_nil _ _ _ _, Below.refl _ _⟩
  · have hF : (frameL x ps).length ≤ 1000000 := by
      have h1 : (frameL x ps).length = (form ps.length).length + (form x).length + 4 + ps.length := by
        simp [frameL, hi_length, List.length_append]
        omega
      have h2 := form_length x hU
      have h3 := form_length ps.length (by unfold U64; omega)
      omega
    refine frames_walk x A1 n1 c1 ps (frameL x ps) .nilIface 0 w hg hr1 hn hF ?_ ?_ (fun W _ => plain_ok W)
    · exact fun ok A c W hr => frame_in ok x A n1 c ps W hr (by omega) hU (bytesW hb1)
    · exact fun ok A c W hr => rframe_in ok x A n1 c ps W hr (by omega) hU (bytesW hb1)
end Wire
end Go.Proofs.YthkhemcbkcoliaaDoor
