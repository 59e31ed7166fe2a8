/- The program's Open: walked. -/
import Derived.Test.YtihgmlcmdpmhhaaDoorSre
import Derived.Test.YtihgmlcmdpmhhaaDoorDdr
import Derived.Test.YtihgmlcmdpmhhaaDoorRdq
namespace Go.Proofs.YtihgmlcmdpmhhaaDoor
set_option linter.unusedVariables false
set_option linter.unusedSimpArgs false
namespace Jrn
open Go.RowKit Mem Apn Wire
/-- A journal in memory, at block J, on the disk at P whose blocks are F. -/
structure Jk (w : World) (F : Nat → Prop) (J P : Nat) (j : JS) : Prop where
  ex : ∃ bd ba, Blk w J 117 #[.func (.func 33) #[.pointer (some ⟨P, 0, none⟩)] #[], .func (.func 37) #[.pointer (some ⟨P, 0, none⟩)] #[], .func (.func 60) #[] #[.pointer (some ⟨bd, 0, none⟩), .pointer (some ⟨ba, 0, none⟩)], .int .i64 j.last, .int .i64 j.synced] ∧
    Blk w bd 59 #[.pointer (some ⟨P, 0, none⟩)] ∧ Blk w ba 3 #[.int .i64 j.fl] ∧ ¬ F bd ∧ ¬ F ba
  jF : ¬ F J
theorem doesS_dead {s : DS} (h : (doesS s).2 = false) : (doesS s).1.dead = s.dead := by
  unfold doesS at h ⊢
  split
  · rfl
  · split
    · rfl
    · rename_i h1 h2
      rw [if_neg h1, if_neg h2] at h
      simp at h
theorem failS_good {s : DS} (h : s.Good) (k : Int) (hf : s.failed ≤ 4611686018427387903) : (failS s k).Good := by
  have h1 := leftS_len s k h
  exact ⟨Nat.le_refl _, h1, h1, by simp [failS]; omega, by simp [failS], h.keep⟩
theorem doesS_good {s : DS} (h : s.Good) (hf : s.failed ≤ 4611686018427387903) : (doesS s).1.Good := by
  unfold doesS
  split
  · exact h
  · split
    · exact ⟨h.least, h.lb, h.ld, h.failed, by have := h.inn; simp only; omega, h.keep⟩
    · exact failS_good (s := ⟨s.B, s.D, s.least, s.dead, s.failed, 0, s.keep⟩) ⟨h.least, h.lb, h.ld, h.failed, by simp, h.keep⟩ _ hf
theorem syncS_no {s : DS} (hd : s.dead = false) (h : (doesS s).2 = true) : syncS s = ((doesS s).1, deadV wSync) := by
  unfold syncS
  rw [if_neg (by simp [hd])]
  obtain ⟨a, b, hd⟩ : ∃ a b, doesS s = (a, b) := ⟨_, _, rfl⟩
  rw [hd] at h ⊢
  simp only at h
  rw [h]; rfl
theorem syncS_ok {s : DS} (hd : s.dead = false) (h : (doesS s).2 = false) : syncS s = (syncd (doesS s).1, .nilIface) := by
  unfold syncS
  rw [if_neg (by simp [hd])]
  obtain ⟨a, b, hd⟩ : ∃ a b, doesS s = (a, b) := ⟨_, _, rfl⟩
  rw [hd] at h ⊢
  simp only at h
  rw [h]; rfl
theorem nw_up {F Fx : Nat → Prop} {w w2 W w4 : World} (h : ∀ k, Fx k → F k ∨ (w2.heap.size ≤ k ∧ k < W.heap.size)) (h1 : w.heap.size ≤ w2.heap.size) (h2 : W.heap.size ≤ w4.heap.size) : ∀ j, Nw Fx W w4 j → w2.heap.size ≤ W.heap.size → Nw F w w4 j := by
  intro j hj h3
  rcases hj with hj | hj
  · rcases h j hj with h4 | h4
    · exact .inl h4
    · exact .inr ⟨by omega, by omega⟩
  · exact .inr ⟨by omega, hj.2⟩
/-- What Open leaves. -/
def OpenP (F : Nat → Prop) (P : Nat) (s : DS) (w : World) (e : Ending) (w' : World) : Prop :=
  ((openS s).2 = true ∧ ∃ (J : Nat) (v : Value) (w2 : World) (F' : Nat → Prop), e = .returned (.tuple #[.pointer (some ⟨J, 0, none⟩), v, .nilIface]) ∧ Rows w2 w.heap.size v (scan s.B).1 ∧ Below w.heap.size w w2 ∧ Keep F w2 w' ∧
      Dk w' F' P (openS s).1 ∧ Jk w' F' J P (openJ s) ∧ (∀ k, F' k → F k ∨ (w2.heap.size ≤ k ∧ k < w'.heap.size)) ∧ w2.heap.size ≤ J) ∨
  ((openS s).2 = false ∧ e = .returned (.tuple #[.pointer none, .slice none 0 0, openE s]) ∧ Dk w' (Nw F w w') P (openS s).1 ∧ Keep F w w')
set_option maxHeartbeats 4000000 in
set_option maxRecDepth 100000 in
theorem open_any (F : Nat → Prop) (P : Nat) (s : DS) (w : World) (h : Dk w F P s) (hs : s.Good) (hl : s.B.length ≤ 1000000000) (hfl : s.failed ≤ 4611686018427387903) (hb : Byt s.B) (hF : ∀ k, F k → k < w.heap.size) :
    Calls Tryd.prog 26 #[.pointer (some ⟨P, 0, none⟩)] w (OpenP F P s w) := by
  have HBx := Held.mk (Blk.new w 59 #[.pointer (some ⟨P, 0, none⟩)])
  have Hb0 : Held (Below w.heap.size w (w.alloc (.cells #[.pointer (some ⟨P, 0, none⟩)] 59))) := ⟨(Below.refl _ _).alloc (Nat.le_refl _) _⟩
  have HDw := Held.mk h
  have HD0 := Held.mk (h.below Hb0.out)
  have HGd := Held.mk hs
  have HB := Held.mk hb
  have HFF := Held.mk hF
  have HLn := Held.mk hl
  have Hfl := Held.mk hfl
  clear hfl
  have hbd0 := HBx.out.cell 0
  have HO := Held.mk (bytes_any F P s _ HD0.out hs)
  cases hd : s.dead with
  | true =>
    rw [hd] at HO
    simp only [if_true] at HO
    have HS1 : Held ((openS s) = (s, false) ∧ openE s = deadV wRead) := ⟨by unfold openS openE; simp [hd]⟩
    clear h hs hl hb hF hd
    go_enter Tryd.func26, Tryd.ntmps26
    go_wp2_with fail
    refine HO.out.mono ?_
    rintro e w1 ⟨v, rfl, hv, hb1⟩
    have HB1 : Held (Below w.heap.size w w1) := ⟨Hb0.out.trans (hb1.mono (by simp))⟩
    have HB01 := Held.mk hb1
    clear hv hb1
    go_wp2_with fail
    go_ret3
    refine .inr ⟨by rw [HS1.out.1], by rw [HS1.out.2]; rfl, ?_, Keep.of_below HB1.out F⟩
    rw [HS1.out.1]
    exact (HDw.out.below HB1.out).mono (fun j h => .inl h)
  | false =>
    rw [hd] at HO
    simp only [Bool.false_eq_true, if_false] at HO
    have HDd := Held.mk hd
    obtain ⟨n, hn⟩ : ∃ n, s.B.length = n := ⟨_, rfl⟩
    have HN := Held.mk hn
    rw [hn] at hl
    obtain ⟨L, m, je, hsc⟩ : ∃ L m je, scan s.B = (L, m, je) := ⟨_, _, _, rfl⟩
    have HSc := Held.mk hsc
    have hft := scan_fits s.B hb
    rw [hsc, hn] at hft
    obtain ⟨hmn0, hLm, hRc⟩ := hft
    have HRc := Held.mk hRc
    simp only at hmn0 hLm
    obtain ⟨q, hq⟩ : ∃ q, L.length = q := ⟨_, rfl⟩
    have HLq := Held.mk hq
    rw [hq] at hLm
    clear h hs hb hF hd hn hsc hRc hq
    go_enter Tryd.func26, Tryd.ntmps26
    go_wp2_with fail
    refine HO.out.mono ?_
    rintro e w1 ⟨v, rfl, ⟨ho, A, rfl⟩, hb1⟩
    rw [HN.out]
    obtain ⟨A', c', e', hc', hr1⟩ := RdN.of_own ho
    simp only [Value.slice.injEq] at e'
    obtain ⟨rfl, -, rfl⟩ := e'
    rw [HN.out] at hr1
    have HScn := Held.mk (scan_any _ A n n s.B w1 hr1 (Nat.le_refl _) hl HB.out)
    rw [HSc.out] at HScn
    simp only at HScn
    have HB1 := Held.mk hb1
    clear ho hb1 hr1 hc' HO
    go_wp2_with fail
    refine HScn.out.mono ?_
    rintro e w2 ⟨v2, rfl, hRw, hb2⟩
    have Hs0 : Held ((w.alloc (.cells #[.pointer (some ⟨P, 0, none⟩)] 59)).heap.size = w.heap.size + 1) := ⟨by simp⟩
    have HB02 : Held (Below (w.alloc (.cells #[.pointer (some ⟨P, 0, none⟩)] 59)).heap.size (w.alloc (.cells #[.pointer (some ⟨P, 0, none⟩)] 59)) w2) := ⟨HB1.out.trans (hb2.mono HB1.out.size)⟩
    have HB2 : Held (Below w.heap.size w w2) := ⟨Hb0.out.trans (HB02.out.mono (by have := Hs0.out; omega))⟩
    have HRw : Held (Rows w2 w.heap.size v2 L) := ⟨hRw.rebase (by have := HB1.out.size; have := Hs0.out; omega)⟩
    have HBx2 : Held (Blk w2 w.heap.size 59 #[.pointer (some ⟨P, 0, none⟩)]) := ⟨by have h := HBx.out.keep (Keep.of_below HB02.out (fun _ => False)) (fun h => h); exact h⟩
    have HD2 := Held.mk (HDw.out.below HB2.out)
    have HF2 : Held (∀ k, F k → k < w2.heap.size) := ⟨fun k hk => Nat.lt_of_lt_of_le (HFF.out k hk) HB2.out.size⟩
    have Hw2 : Held (w.heap.size < w2.heap.size) := ⟨HBx2.out.lt⟩
    have hb2c := HBx2.out.cell 0
    clear hRw hb2 HScn
    by_cases hmn : m < n
    · have ecut : cutOp s (m : Int) = ((doesS (cutS s m)).1, errW wCut (doesS (cutS s m)).2) := by
        unfold cutOp
        rw [if_neg (by simp [HDd.out]), if_neg (by rw [HN.out]; omega), Int.toNat_natCast]; rfl
      have HCt := Held.mk (cut_any F P s (m : Int) w2 HD2.out HGd.out HF2.out)
      rw [ecut] at HCt
      have hmI : (m : Int) < (n : Int) := by omega
      cases hcd : (doesS (cutS s m)).2 with
      | true =>
        rw [hcd] at HCt
        simp only [errW] at HCt
        unfold deadV at HCt
        have HS1 : Held ((openS s).2 = false ∧ openE s = deadV wCut ∧ (openS s).1 = (doesS (cutS s m)).1) := ⟨by
          unfold openS openE openC
          rw [HSc.out, HN.out]
          simp [HDd.out, hmn, hcd]⟩
        clear ecut hcd
        go_wp2_with fail
        refine HCt.out.mono ?_
        rintro e w3 ⟨rfl, hD3, hK3⟩
        have HD3 := Held.mk hD3
        have HK3 := Held.mk hK3
        clear hD3 hK3 HCt
        go_wp2_with fail
        go_ret3
        refine .inr ⟨HS1.out.1, by rw [HS1.out.2.1]; rfl, ?_, ?_⟩
        · rw [HS1.out.2.2]
          exact HD3.out.mono (fun j h => h.imp id fun h => ⟨Nat.le_trans HB2.out.size h.1, h.2⟩)
        · exact (Keep.of_below HB2.out F).trans HK3.out
      | false =>
        rw [hcd] at HCt
        simp only [errW] at HCt
        have HCx : Held (openC s = ((doesS (cutS s m)).1, false)) := ⟨by unfold openC; rw [HSc.out, HN.out, if_pos (by simpa using hmn), ← hcd]⟩
        have HNd : Held ((doesS (cutS s m)).1.dead = false) := ⟨by rw [doesS_dead hcd]; exact HDd.out⟩
        have HGX : Held ((doesS (cutS s m)).1.Good) := ⟨doesS_good (goodCut HGd.out (by rw [HN.out]; omega)) Hfl.out⟩
        clear ecut hcd
        generalize (doesS (cutS s m)).1 = S at *
        go_wp2_with fail
        refine HCt.out.mono ?_
        rintro e W ⟨rfl, hD3, hK3⟩
        obtain ⟨Fx, hFx⟩ : ∃ Fx, Nw F w2 W = Fx := ⟨_, rfl⟩
        rw [hFx] at hD3
        have HDX := Held.mk hD3
        have HFs : Held (∀ k, Fx k → F k ∨ (w2.heap.size ≤ k ∧ k < W.heap.size)) := ⟨fun k hk => by rw [← hFx] at hk; exact hk⟩
        have HFX : Held (∀ k, Fx k → k < W.heap.size) := ⟨fun k hk => by rcases HFs.out k hk with h | h; exact Nat.lt_of_lt_of_le (HF2.out k h) hK3.size; exact h.2⟩
        have HKX : Held (Keep F w W) := ⟨(Keep.of_below HB2.out F).trans hK3⟩
        have HK2 := Held.mk hK3
        have HBX : Held (Blk W w.heap.size 59 #[.pointer (some ⟨P, 0, none⟩)]) := ⟨HBx2.out.keep hK3 (fun h => absurd (HFF.out _ h) (Nat.lt_irrefl _))⟩
        clear hD3 hK3 HCt hFx
        have HNb : Held (¬ Fx w.heap.size) := ⟨fun h => by rcases HFs.out _ h with h | h; exact absurd (HFF.out _ h) (Nat.lt_irrefl _); have := Hw2.out; omega⟩
        have hbW := HBX.out.cell 0
        have HSy := Held.mk (sync_any Fx P S W HDX.out HGX.out HFX.out)
        cases hsy : (doesS S).2 with
        | true =>
          have esy : syncS S = ((doesS S).1, deadV wSync) := syncS_no HNd.out hsy
          rw [esy] at HSy
          have HS1 : Held ((openS s).2 = false ∧ openE s = deadV wSync ∧ (openS s).1 = (doesS S).1) := ⟨by
            unfold openS openE
            rw [HCx.out]
            simp [HDd.out, hsy]⟩
          clear esy hsy
          unfold deadV at HSy
          go_wp2_with fail
          refine HSy.out.mono ?_
          rintro e w4 ⟨rfl, hD4, hK4⟩
          have HD4 := Held.mk hD4
          have HK4 := Held.mk hK4
          clear hD4 hK4 HSy
          go_wp2_with fail
          go_ret3
          refine .inr ⟨HS1.out.1, by rw [HS1.out.2.1]; rfl, ?_, ?_⟩
          · rw [HS1.out.2.2]
            exact HD4.out.mono (fun j h => nw_up HFs.out HB2.out.size HK4.out.size j h HK2.out.size)
          · exact HKX.out.then HK4.out (fun i hi h => by rcases HFs.out _ h with h | h; exact h; have := HB2.out.size; omega)
        | false =>
          have esy : syncS S = (syncd (doesS S).1, .nilIface) := syncS_ok HNd.out hsy
          rw [esy] at HSy
          have HS1 : Held ((openS s).2 = true ∧ (openS s).1 = syncd (doesS S).1) := ⟨by
            unfold openS
            rw [HCx.out]
            simp [HDd.out, hsy]⟩
          clear esy hsy
          go_wp2_with fail
          refine HSy.out.mono ?_
          rintro e w4 ⟨rfl, hD4, hK4⟩
          obtain ⟨u1, u2, ar, inn, h1, _⟩ := hD4.ex
          have c4 := h1.cell 4
          have HP4 := Held.mk h1.lt
          have HD4 := Held.mk hD4
          have HK4 := Held.mk hK4
          have HBb := Held.mk (HBX.out.keep HK4.out HNb.out)
          have b4 := HBb.out.cell 0
          have HS4 := Held.mk HK4.out.size
          clear hD4 hK4 HSy h1
          obtain ⟨Av, cv, rfl, hcv⟩ := HRw.out.slc
          rw [HLq.out] at HRw hcv
          rw [HLq.out]
          have a1 : ∀ u, (w4.alloc u).cell? ⟨w.heap.size, 0, none⟩ = some (.pointer (some ⟨P, 0, none⟩)) := fun u => (HBb.out.alloc u).cell 0
          generalize syncd (doesS S).1 = S4 at *
          have hst : ∀ (a : Addr) (m : Mode) (f : Fn) (x y : Array Value) (W : World), (store a (.func f x y) m).run Tryd.prog W = stored Tryd.prog W a (.func f x y) m := fun a m f x y W => run_store Tryd.prog W a _ m rfl
          go_wp2_with fail
          go_ret3
          have s1 := HB2.out.size
          have s2 := HK2.out.size
          have s4 := HK4.out.size
          have hbl : Below w4.heap.size w4 ((w4.alloc (.cells #[.int .i64 S4.failed] 3)).alloc (.cells #[.func (.func 33) #[.pointer (some ⟨P, 0, none⟩)] #[], .func (.func 37) #[.pointer (some ⟨P, 0, none⟩)] #[], .func (.func 60) #[] #[.pointer (some ⟨w.heap.size, 0, none⟩), .pointer (some ⟨w4.heap.size, 0, none⟩)], .int .i64 q, .int .i64 q] 117)) := ((Below.refl _ _).alloc (Nat.le_refl _) _).alloc (by simp) _
          refine .inl ⟨HS1.out.1, w4.heap.size + 1, _, w2, Nw Fx W w4, rfl, by rw [HSc.out]; exact HRw.out, HB2.out, ?_, ?_, ⟨⟨w.heap.size, w4.heap.size, ?_, ?_, ?_, ?_, ?_⟩, ?_⟩, ?_, by omega⟩
          · exact (HK2.out.then HK4.out (fun i hi h => by rcases HFs.out i h with h | h; exact h; omega)).below hbl
          · rw [HS1.out.2]
            exact HD4.out.below hbl
          · have hB := Blk.new (w4.alloc (.cells #[.int .i64 S4.failed] 3)) 117 #[.func (.func 33) #[.pointer (some ⟨P, 0, none⟩)] #[], .func (.func 37) #[.pointer (some ⟨P, 0, none⟩)] #[], .func (.func 60) #[] #[.pointer (some ⟨w.heap.size, 0, none⟩), .pointer (some ⟨w4.heap.size, 0, none⟩)], .int .i64 q, .int .i64 q]
            have esz : (w4.alloc (.cells #[.int .i64 S4.failed] 3)).heap.size = w4.heap.size + 1 := by simp
            rw [esz] at hB
            unfold openJ
            rw [HSc.out]
            simp only [HLq.out]
            exact hB
          · exact (HBb.out.alloc _).alloc _
          · unfold openJ
            rw [HS1.out.2]
            exact (Blk.new w4 _ _).alloc _
          · rintro (h | h)
            · exact HNb.out h
            · have := Hw2.out; omega
          · rintro (h | h)
            · have := HFX.out _ h; omega
            · omega
          · rintro (h | h)
            · have := HFX.out _ h; omega
            · omega
          · rintro k (h | h)
            · rcases HFs.out k h with h | h
              · exact .inl h
              · exact .inr ⟨h.1, by simp; omega⟩
            · exact .inr ⟨by omega, by simp; omega⟩

    · have hmI : ¬ (m : Int) < (n : Int) := by omega
      have HCx : Held (openC s = (s, false)) := ⟨by unfold openC; rw [HSc.out, HN.out, if_neg (by simpa using hmn)]⟩
      have HNd := HDd
      have HGX := HGd
      have HDX := HD2
      have HFs : Held (∀ k, F k → F k ∨ (w2.heap.size ≤ k ∧ k < w2.heap.size)) := ⟨fun k hk => .inl hk⟩
      have HFX := HF2
      have HKX : Held (Keep F w w2) := ⟨Keep.of_below HB2.out F⟩
      have HK2 : Held (Keep F w2 w2) := ⟨Keep.refl _ _⟩
      have HBX := HBx2
      have HNb : Held (¬ F w.heap.size) := ⟨fun h => by rcases HFs.out _ h with h | h; exact absurd (HFF.out _ h) (Nat.lt_irrefl _); have := Hw2.out; omega⟩
      have hbW := HBX.out.cell 0
      have HSy := Held.mk (sync_any F P s w2 HDX.out HGX.out HFX.out)
      cases hsy : (doesS s).2 with
      | true =>
        have esy : syncS s = ((doesS s).1, deadV wSync) := syncS_no HNd.out hsy
        rw [esy] at HSy
        have HS1 : Held ((openS s).2 = false ∧ openE s = deadV wSync ∧ (openS s).1 = (doesS s).1) := ⟨by
          unfold openS openE
          rw [HCx.out]
          simp [HDd.out, hsy]⟩
        clear esy hsy
        unfold deadV at HSy
        go_wp2_with fail
        refine HSy.out.mono ?_
        rintro e w4 ⟨rfl, hD4, hK4⟩
        have HD4 := Held.mk hD4
        have HK4 := Held.mk hK4
        clear hD4 hK4 HSy
        go_wp2_with fail
        go_ret3
        refine .inr ⟨HS1.out.1, by rw [HS1.out.2.1]; rfl, ?_, ?_⟩
        · rw [HS1.out.2.2]
          exact HD4.out.mono (fun j h => nw_up HFs.out HB2.out.size HK4.out.size j h HK2.out.size)
        · exact HKX.out.then HK4.out (fun i hi h => by rcases HFs.out _ h with h | h; exact h; have := HB2.out.size; omega)
      | false =>
        have esy : syncS s = (syncd (doesS s).1, .nilIface) := syncS_ok HNd.out hsy
        rw [esy] at HSy
        have HS1 : Held ((openS s).2 = true ∧ (openS s).1 = syncd (doesS s).1) := ⟨by
          unfold openS
          rw [HCx.out]
          simp [HDd.out, hsy]⟩
        clear esy hsy
        go_wp2_with fail
        refine HSy.out.mono ?_
        rintro e w4 ⟨rfl, hD4, hK4⟩
        obtain ⟨u1, u2, ar, inn, h1, _⟩ := hD4.ex
        have c4 := h1.cell 4
        have HP4 := Held.mk h1.lt
        have HD4 := Held.mk hD4
        have HK4 := Held.mk hK4
        have HBb := Held.mk (HBX.out.keep HK4.out HNb.out)
        have b4 := HBb.out.cell 0
        have HS4 := Held.mk HK4.out.size
        clear hD4 hK4 HSy h1
        obtain ⟨Av, cv, rfl, hcv⟩ := HRw.out.slc
        rw [HLq.out] at HRw hcv
        rw [HLq.out]
        have a1 : ∀ u, (w4.alloc u).cell? ⟨w.heap.size, 0, none⟩ = some (.pointer (some ⟨P, 0, none⟩)) := fun u => (HBb.out.alloc u).cell 0
        generalize syncd (doesS s).1 = S4 at *
        have hst : ∀ (a : Addr) (m : Mode) (f : Fn) (x y : Array Value) (w2 : World), (store a (.func f x y) m).run Tryd.prog w2 = stored Tryd.prog w2 a (.func f x y) m := fun a m f x y w2 => run_store Tryd.prog w2 a _ m rfl
        go_wp2_with fail
        go_ret3
        have s1 := HB2.out.size
        have s2 := HK2.out.size
        have s4 := HK4.out.size
        have hbl : Below w4.heap.size w4 ((w4.alloc (.cells #[.int .i64 S4.failed] 3)).alloc (.cells #[.func (.func 33) #[.pointer (some ⟨P, 0, none⟩)] #[], .func (.func 37) #[.pointer (some ⟨P, 0, none⟩)] #[], .func (.func 60) #[] #[.pointer (some ⟨w.heap.size, 0, none⟩), .pointer (some ⟨w4.heap.size, 0, none⟩)], .int .i64 q, .int .i64 q] 117)) := ((Below.refl _ _).alloc (Nat.le_refl _) _).alloc (by simp) _
        refine .inl ⟨HS1.out.1, w4.heap.size + 1, _, w2, Nw F w2 w4, rfl, by rw [HSc.out]; exact HRw.out, HB2.out, ?_, ?_, ⟨⟨w.heap.size, w4.heap.size, ?_, ?_, ?_, ?_, ?_⟩, ?_⟩, ?_, by omega⟩
        · exact (HK2.out.then HK4.out (fun i hi h => by rcases HFs.out i h with h | h; exact h; omega)).below hbl
        · rw [HS1.out.2]
          exact HD4.out.below hbl
        · have hB := Blk.new (w4.alloc (.cells #[.int .i64 S4.failed] 3)) 117 #[.func (.func 33) #[.pointer (some ⟨P, 0, none⟩)] #[], .func (.func 37) #[.pointer (some ⟨P, 0, none⟩)] #[], .func (.func 60) #[] #[.pointer (some ⟨w.heap.size, 0, none⟩), .pointer (some ⟨w4.heap.size, 0, none⟩)], .int .i64 q, .int .i64 q]
          have esz : (w4.alloc (.cells #[.int .i64 S4.failed] 3)).heap.size = w4.heap.size + 1 := by simp
          rw [esz] at hB
          unfold openJ
          rw [HSc.out]
          simp only [HLq.out]
          exact hB
        · exact (HBb.out.alloc _).alloc _
        · unfold openJ
          rw [HS1.out.2]
          exact (Blk.new w4 _ _).alloc _
        · rintro (h | h)
          · exact HNb.out h
          · have := Hw2.out; omega
        · rintro (h | h)
          · have := HFX.out _ h; omega
          · omega
        · rintro (h | h)
          · have := HFX.out _ h; omega
          · omega
        · rintro k (h | h)
          · rcases HFs.out k h with h | h
            · exact .inl h
            · exact .inr ⟨h.1, by simp; omega⟩
          · exact .inr ⟨by omega, by simp; omega⟩

end Jrn
end Go.Proofs.YtihgmlcmdpmhhaaDoor
/- The program's Append, Sync, Last: walked. -/
namespace Go.Proofs.YtihgmlcmdpmhhaaDoor
set_option linter.unusedVariables false
set_option linter.unusedSimpArgs false
namespace Jrn
open Go.RowKit Mem Apn Wire
theorem Jk.keep {w w' : World} {F : Nat → Prop} {J P : Nat} {j : JS} (h : Jk w F J P j) {S : Nat → Prop} (hk : Keep S w w') (hS : ∀ k, S k → F k) : Jk w' F J P j := by
  obtain ⟨bd, ba, h1, h2, h3, h4, h5⟩ := h.ex
  exact ⟨⟨bd, ba, h1.keep hk (fun h' => h.jF (hS _ h')), h2.keep hk (fun h' => h4 (hS _ h')), h3.keep hk (fun h' => h5 (hS _ h')), h4, h5⟩, h.jF⟩
theorem Jk.lt {w : World} {F : Nat → Prop} {J P : Nat} {j : JS} (h : Jk w F J P j) : J < w.heap.size := by
  obtain ⟨bd, ba, h1, _⟩ := h.ex
  exact h1.lt
theorem Jk.mono {w : World} {F F' : Nat → Prop} {J P : Nat} {j : JS} (h : Jk w F J P j) (hF : ∀ k, k < w.heap.size → F' k → F k) : Jk w F' J P j := by
  obtain ⟨bd, ba, h1, h2, h3, h4, h5⟩ := h.ex
  exact ⟨⟨bd, ba, h1, h2, h3, fun h => h4 (hF _ h2.lt h), fun h => h5 (hF _ h3.lt h)⟩, fun h' => h.jF (hF _ h1.lt h')⟩
/-- The disk was written. -/
theorem Jk.next {w w' : World} {F : Nat → Prop} {J P : Nat} {j : JS} (h : Jk w F J P j) (hk : Keep F w w') : Jk w' (Nw F w w') J P j := by
  obtain ⟨bd, ba, h1, h2, h3, h4, h5⟩ := h.ex
  have k1 := h1.keep hk h.jF
  have k2 := h2.keep hk h4
  have k3 := h3.keep hk h5
  have l1 := h1.lt
  have l2 := h2.lt
  have l3 := h3.lt
  exact ⟨⟨bd, ba, k1, k2, k3, fun h => by rcases h with h | h; exact h4 h; omega, fun h => by rcases h with h | h; exact h5 h; omega⟩, fun h' => by rcases h' with h' | h'; exact h.jF h'; omega⟩
theorem Jk.below {w w' : World} {F : Nat → Prop} {J P : Nat} {j : JS} (h : Jk w F J P j) (hb : Below w.heap.size w w') : Jk w' F J P j := h.keep (Keep.of_below hb (fun _ => False)) (fun _ h => h.elim)
/-- A journal's own block is written: its two last cells. -/
theorem Jk.set_ {w : World} {F : Nat → Prop} {J P : Nat} {j : JS} (h : Jk w F J P j) : Jk (w.setCell ⟨J, 3, none⟩ (.int .i64 ((j.last : Int) + 1))) F J P ⟨j.fl, j.last + 1, j.synced⟩ ∧ Jk (w.setCell ⟨J, 4, none⟩ (.int .i64 j.last)) F J P ⟨j.fl, j.last, j.last⟩ := by
  obtain ⟨bd, ba, h1, h2, h3, h4, h5⟩ := h.ex
  have e : ((j.last + 1 : Nat) : Int) = (j.last : Int) + 1 := by omega
  refine ⟨⟨⟨bd, ba, ?_, h2.far (Blk.ne_ h2 h1 (by decide)) _, h3.far (Blk.ne_ h3 h1 (by decide)) _, h4, h5⟩, h.jF⟩, ⟨⟨bd, ba, ?_, h2.far (Blk.ne_ h2 h1 (by decide)) _, h3.far (Blk.ne_ h3 h1 (by decide)) _, h4, h5⟩, h.jF⟩⟩
  · have := h1.set_ 3 (.int .i64 ((j.last : Int) + 1))
    rw [← e] at this ⊢
    simpa using this
  · have := h1.set_ 4 (.int .i64 j.last)
    simpa using this
set_option maxHeartbeats 1000000 in
set_option maxRecDepth 100000 in
theorem jfailed_any (b : Bool) (F : Nat → Prop) (P bd ba : Nat) (s : DS) (fl : Nat) (w : World) (h : Dk w F P s) (h2 : Blk w bd 59 #[.pointer (some ⟨P, 0, none⟩)]) (h3 : Blk w ba 3 #[.int .i64 fl]) (hb : b = decide (¬ s.failed = fl)) :
    Calls Tryd.prog 60 #[.pointer (some ⟨bd, 0, none⟩), .pointer (some ⟨ba, 0, none⟩)] w fun e w' => e = .returned (.bool b) ∧ ∃ m, w' = w.drewN m := by
  obtain ⟨v1, v2, armed, inn, h1, _⟩ := h.ex
  have c4 := h1.cell 4
  have d0 := h2.cell 0
  have a0 := h3.cell 0
  clear h h1 h2 h3
  cases b with
  | false =>
    have he : s.failed = fl := by simpa using hb
    have e1 : ((fl : Int) != fl) = false := by simp
    rw [he] at c4
    clear hb he
    go_enter Tryd.func60, Tryd.ntmps60
    go_wp2
    go_quiet (fail)
    go_wp2
    go_ret
    exact ⟨rfl, _, rfl⟩
  | true =>
    have he : ¬ s.failed = fl := by simpa using hb
    have e1 : ((s.failed : Int) != fl) = true := by rw [bne_iff_ne]; omega
    clear hb he
    go_enter Tryd.func60, Tryd.ntmps60
    go_wp2
    go_quiet (fail)
    go_wp2
    go_ret
    exact ⟨rfl, _, rfl⟩
set_option maxHeartbeats 1000000 in
set_option maxRecDepth 100000 in
theorem last_any (F : Nat → Prop) (J P : Nat) (j : JS) (w : World) (h : Jk w F J P j) : Calls Tryd.prog 29 #[.pointer (some ⟨J, 0, none⟩)] w fun e w' => e = .returned (.tuple #[.int .i64 j.last, .int .i64 j.synced]) ∧ ∃ m, w' = w.drewN m := by
  obtain ⟨bd, ba, h1, _⟩ := h.ex
  have c3 := h1.cell 3
  have c4 := h1.cell 4
  clear h h1
  go_enter Tryd.func29, Tryd.ntmps29
  go_wp2
  go_quiet (fail)
  go_wp2
  go_ret2
  exact ⟨rfl, _, rfl⟩
/-- What Append leaves. -/
def AppP (F : Nat → Prop) (J P : Nat) (r : DS × JS × Int × Value) (w : World) (e : Ending) (w' : World) : Prop :=
  e = .returned (.tuple #[.int .i64 r.2.2.1, r.2.2.2]) ∧ ∃ F', Dk w' F' P r.1 ∧ Jk w' F' J P r.2.1 ∧ (∀ k, F' k → F k ∨ (w.heap.size ≤ k ∧ k < w'.heap.size)) ∧ Keep (fun k => F k ∨ k = J) w w'
set_option maxHeartbeats 4000000 in
set_option maxRecDepth 100000 in
theorem append_any (F : Nat → Prop) (J P : Nat) (s : DS) (j : JS) (ok : Nat → Prop) (A : Option Addr) (n c : Nat) (r : List Int) (w : World) (hD : Dk w F P s) (hJ : Jk w F J P j) (hs : s.Good) (hr : RdN w ok .u8 A n r) (hb : Byt r) (hF : ∀ k, F k → k < w.heap.size)
    (hn : n ≤ 140737488355328) (hl : j.last ≤ 4611686018427387904) :
    Calls Tryd.prog 27 #[.pointer (some ⟨J, 0, none⟩), .slice A n c] w (AppP F J P (appS s j r) w) := by
  have hlen := hr.len
  have HR := Held.mk hr
  have HBy := Held.mk hb
  have HDw := Held.mk hD
  have HJw := Held.mk hJ
  have HFF := Held.mk hF
  have HG := Held.mk hs
  obtain ⟨bd, ba, h1, h2, h3, h4, h5⟩ := hJ.ex
  have c2 := h1.cell 2
  have HJB := Held.mk h1
  have HFl := Held.mk (fun b hb => jfailed_any b F P bd ba s j.fl w hD h2 h3 hb)
  have Hlen := Held.mk hlen
  clear hD hJ hs hr hb hF h1 h2 h3 h4 h5 hlen
  by_cases hf : s.failed = j.fl
  · have HC := Held.mk (HFl.out false (by simp [hf]))
    by_cases hn6 : 65536 < n
    · have HA : Held (appS s j r = (s, j, 0, Er.enc (.ref wPayload 5))) := ⟨by unfold appS; rw [if_neg (by simpa using hf), if_pos (by rw [Hlen.out]; exact hn6)]⟩
      have HNo := Held.mk (fun W => frame_no (j.last + 1) A n c W hn6)
      have ec : ((j.last + 1 : Nat) : Int) = (j.last : Int) + 1 := by omega
      rw [ec] at HNo
      have c3 := HJB.out.cell 3
      clear hf HFl ec
      go_enter Tryd.func27, Tryd.ntmps27
      go_wp2_with fail
      refine HC.out.mono ?_
      rintro e wq ⟨rfl, mq, rfl⟩
      go_wp2_with fail
      refine (HNo.out _).mono ?_
      rintro e wr ⟨rfl, rfl⟩
      unfold Er.enc
      go_wp2_with fail
      go_ret2
      rw [HA.out]
      have hk : Below w.heap.size w (w.drewN mq) := below_drewN (Below.refl _ _) mq
      exact ⟨rfl, F, HDw.out.below hk, HJw.out.below hk, fun k hk => .inl hk, Keep.of_below hk _⟩
    · have hbl : r.length ≤ 65536 := by rw [Hlen.out]; omega
      have Hfl2 : Held ((frameL (j.last + 1) r).length ≤ 70000) := ⟨by
        rw [frameL_length]
        have f1 := form_length r.length (by unfold U64; omega)
        have f2 := form_length (j.last + 1) (by unfold U64; omega)
        omega⟩
      have HFr := Held.mk (fun W (h : RdN W ok .u8 A n r) => frame_in ok (j.last + 1) A n c r W h (by omega) (by unfold U64; omega) HBy.out)
      have ec : ((j.last + 1 : Nat) : Int) = (j.last : Int) + 1 := by omega
      rw [ec] at HFr
      have c3 := HJB.out.cell 3
      have hbw : ¬ 65536 < r.length := by omega
      cases hw : writeOk s (frameL (j.last + 1) r) with
      | false =>
        have HA : Held (appS s j r = ((writeS s (frameL (j.last + 1) r)).1, j, 0, (writeS s (frameL (j.last + 1) r)).2)) := ⟨by unfold appS; rw [if_neg (by simpa using hf), if_neg hbw, hw]; rfl⟩
        obtain ⟨T, v, hv⟩ := writeOk_no hw
        have Hv := Held.mk hv
        clear hf HFl ec hw hv hbl hbw
        generalize frameL (j.last + 1) r = fr at *
        go_enter Tryd.func27, Tryd.ntmps27
        go_wp2_with fail
        refine HC.out.mono ?_
        rintro e wq ⟨rfl, mq, rfl⟩
        have hk : Below w.heap.size w (w.drewN mq) := below_drewN (Below.refl _ _) mq
        go_wp2_with fail
        refine (HFr.out _ (HR.out.keep (Keep.of_below hk (fun _ => False)) (fun _ _ h => h))).mono ?_
        rintro e w1 ⟨u, rfl, ho, hb1⟩
        have HB1 : Held (Below w.heap.size w w1) := ⟨hk.trans (hb1.mono hk.size)⟩
        obtain ⟨Au, cu, rfl, hcu, hru⟩ := rd_own ho
        have HWr := Held.mk (write_any F P s _ Au fr.length cu fr w1 (HDw.out.below HB1.out) HG.out hru (fun k hk => Nat.lt_of_lt_of_le (HFF.out k hk) HB1.out.size) (by have := Hfl2.out; omega))
        have c0 := (HJB.out.keep (Keep.of_below HB1.out (fun _ => False)) (fun h => h)).cell 0
        rw [Hv.out] at HWr
        clear hk ho hb1 hru
        go_wp2_with fail
        refine HWr.out.mono ?_
        rintro e w2 ⟨rfl, hD2, hK2⟩
        have HD2 := Held.mk hD2
        have HK2 := Held.mk hK2
        clear hD2 hK2 HWr
        go_wp2_with fail
        go_ret2
        rw [HA.out]
        refine ⟨by simp only [Hv.out]; rfl, _, HD2.out, (HJw.out.below HB1.out).next HK2.out, fun k h => h.imp id fun h => ⟨Nat.le_trans HB1.out.size h.1, h.2⟩, ?_⟩
        exact ((Keep.of_below HB1.out F).trans HK2.out).mono (fun _ _ h => .inl h)
      | true =>
        have HA : Held (appS s j r = ((writeS s (frameL (j.last + 1) r)).1, (⟨j.fl, j.last + 1, j.synced⟩ : JS), ((j.last : Int) + 1), Value.nilIface)) := ⟨by unfold appS; rw [if_neg (by simpa using hf), if_neg hbw, hw]; rfl⟩
        have Hv := Held.mk (writeOk_ok hw)
        clear hf HFl ec hw hbl hbw
        generalize frameL (j.last + 1) r = fr at *
        go_enter Tryd.func27, Tryd.ntmps27
        go_wp2_with fail
        refine HC.out.mono ?_
        rintro e wq ⟨rfl, mq, rfl⟩
        have hk : Below w.heap.size w (w.drewN mq) := below_drewN (Below.refl _ _) mq
        go_wp2_with fail
        refine (HFr.out _ (HR.out.keep (Keep.of_below hk (fun _ => False)) (fun _ _ h => h))).mono ?_
        rintro e w1 ⟨u, rfl, ho, hb1⟩
        have HB1 : Held (Below w.heap.size w w1) := ⟨hk.trans (hb1.mono hk.size)⟩
        obtain ⟨Au, cu, rfl, hcu, hru⟩ := rd_own ho
        have HWr := Held.mk (write_any F P s _ Au fr.length cu fr w1 (HDw.out.below HB1.out) HG.out hru (fun k hk => Nat.lt_of_lt_of_le (HFF.out k hk) HB1.out.size) (by have := Hfl2.out; omega))
        have c0 := (HJB.out.keep (Keep.of_below HB1.out (fun _ => False)) (fun h => h)).cell 0
        rw [Hv.out] at HWr
        clear hk ho hb1 hru
        go_wp2_with fail
        refine HWr.out.mono ?_
        rintro e w2 ⟨rfl, hD2, hK2⟩
        have HD2 := Held.mk hD2
        have HK2 := Held.mk hK2
        have HJ2 := Held.mk ((HJB.out.keep (Keep.of_below HB1.out (fun _ => False)) (fun h => h)).keep hK2 HJw.out.jF)
        have k3 := HJ2.out.cell 3
        have f3 := HJ2.out.frozen 3
        clear hD2 hK2 HWr
        go_wp2_with fail
        go_ret2
        rw [HA.out]
        have hj := (HJw.out.below HB1.out).next HK2.out
        have hkj := kp (P := J) (i := 3) (w := w2) (.int .i64 ((j.last : Int) + 1))
        refine ⟨rfl, Nw F w1 w2, HD2.out.keep_ hkj (fun k hF _ e => by subst e; exact hj.jF hF), hj.set_.1, fun k h => by rcases h with h | h; exact .inl h; exact .inr ⟨Nat.le_trans HB1.out.size h.1, by simpa using h.2⟩, ?_⟩
        exact (((Keep.of_below HB1.out F).trans HK2.out).mono (T := fun k => F k ∨ k = J) (fun _ _ h => .inl h)).then hkj (fun i _ e => .inr e)
  · have HC := Held.mk (HFl.out true (by simp [hf]))
    have HA : Held (appS s j r = (s, j, 0, deadV wAppend)) := ⟨by unfold appS; rw [if_pos (by simpa using hf)]⟩
    clear hf HFl
    go_enter Tryd.func27, Tryd.ntmps27
    go_wp2_with fail
    refine HC.out.mono ?_
    rintro e wq ⟨rfl, mq, rfl⟩
    go_wp2_with fail
    refine (dead_any _ _).mono ?_
    rintro e wr ⟨rfl, rfl⟩
    go_wp2_with fail
    go_ret2
    rw [HA.out]
    have hk : Below w.heap.size w (w.drewN mq) := below_drewN (Below.refl _ _) mq
    exact ⟨rfl, F, HDw.out.below hk, HJw.out.below hk, fun k hk => .inl hk, Keep.of_below hk _⟩
set_option maxHeartbeats 4000000 in
set_option maxRecDepth 100000 in
theorem jsync_any (F : Nat → Prop) (J P : Nat) (s : DS) (j : JS) (w : World) (hD : Dk w F P s) (hJ : Jk w F J P j) (hs : s.Good) (hF : ∀ k, F k → k < w.heap.size) :
    Calls Tryd.prog 28 #[.pointer (some ⟨J, 0, none⟩)] w (AppP F J P (jsyncS s j) w) := by
  have HDw := Held.mk hD
  have HJw := Held.mk hJ
  have HFF := Held.mk hF
  have HG := Held.mk hs
  obtain ⟨bd, ba, h1, h2, h3, h4, h5⟩ := hJ.ex
  have c2 := h1.cell 2
  have HJB := Held.mk h1
  have HFl := Held.mk (fun b hb => jfailed_any b F P bd ba s j.fl w hD h2 h3 hb)
  clear hD hJ hs hF h1 h2 h3 h4 h5
  by_cases hf : s.failed = j.fl
  · have HC := Held.mk (HFl.out false (by simp [hf]))
    have c1 := HJB.out.cell 1
    have HSy := Held.mk (fun m => sync_any F P s (w.drewN m) (HDw.out.below (below_drewN (Below.refl _ _) m)) HG.out HFF.out)
    cases hw : syncOk s with
    | false =>
      have HA : Held (jsyncS s j = ((syncS s).1, j, 0, (syncS s).2)) := ⟨by unfold jsyncS; rw [if_neg (by simpa using hf), hw]; rfl⟩
      have Hv := Held.mk (syncOk_no hw)
      rw [Hv.out] at HSy
      unfold deadV at HSy
      clear hf HFl hw
      go_enter Tryd.func28, Tryd.ntmps28
      go_wp2_with fail
      refine HC.out.mono ?_
      rintro e wq ⟨rfl, mq, rfl⟩
      go_wp2_with fail
      refine (HSy.out mq).mono ?_
      rintro e w2 ⟨rfl, hD2, hK2⟩
      have HD2 := Held.mk hD2
      have HK2 := Held.mk hK2
      clear hD2 hK2 HSy
      go_wp2_with fail
      go_ret2
      rw [HA.out]
      have hk : Below w.heap.size w (w.drewN mq) := below_drewN (Below.refl _ _) mq
      refine ⟨by simp only [Hv.out]; rfl, _, HD2.out, (HJw.out.below hk).next HK2.out, fun k h => h, ?_⟩
      exact ((Keep.of_below hk F).trans HK2.out).mono (fun _ _ h => .inl h)
    | true =>
      have HA : Held (jsyncS s j = ((syncS s).1, (⟨j.fl, j.last, j.last⟩ : JS), (j.last : Int), Value.nilIface)) := ⟨by unfold jsyncS; rw [if_neg (by simpa using hf), hw]; rfl⟩
      have Hv := Held.mk (syncOk_ok hw).1
      rw [Hv.out] at HSy
      clear hf HFl hw
      go_enter Tryd.func28, Tryd.ntmps28
      go_wp2_with fail
      refine HC.out.mono ?_
      rintro e wq ⟨rfl, mq, rfl⟩
      go_wp2_with fail
      refine (HSy.out mq).mono ?_
      rintro e w2 ⟨rfl, hD2, hK2⟩
      have HD2 := Held.mk hD2
      have HK2 := Held.mk hK2
      have HJ2 := Held.mk ((HJB.out.keep (Keep.of_below (below_drewN (Below.refl _ _) mq) (fun _ => False)) (fun h => h)).keep hK2 HJw.out.jF)
      have k3 := HJ2.out.cell 3
      have k4 := HJ2.out.cell 4
      have f4 := HJ2.out.frozen 4
      clear hD2 hK2 HSy
      go_wp2_with fail
      go_ret2
      rw [HA.out]
      have hk : Below w.heap.size w (w.drewN mq) := below_drewN (Below.refl _ _) mq
      have hj := (HJw.out.below hk).next HK2.out
      have hkj := kp (P := J) (i := 4) (w := w2) (.int .i64 (j.last : Int))
      refine ⟨rfl, Nw F (w.drewN mq) w2, HD2.out.keep_ hkj (fun k hF _ e => by subst e; exact hj.jF hF), hj.set_.2, fun k h => by rcases h with h | h; exact .inl h; exact .inr ⟨h.1, by simpa using h.2⟩, ?_⟩
      exact (((Keep.of_below hk F).trans HK2.out).mono (T := fun k => F k ∨ k = J) (fun _ _ h => .inl h)).then hkj (fun i _ e => .inr e)
  · have HC := Held.mk (HFl.out true (by simp [hf]))
    have HA : Held (jsyncS s j = (s, j, 0, .iface 50 (.int .i64 23))) := ⟨by unfold jsyncS; rw [if_pos (by simpa using hf)]⟩
    clear hf HFl
    go_enter Tryd.func28, Tryd.ntmps28
    go_wp2_with fail
    refine HC.out.mono ?_
    rintro e wq ⟨rfl, mq, rfl⟩
    go_wp2_with fail
    go_ret2
    rw [HA.out]
    have hk : Below w.heap.size w (w.drewN mq) := below_drewN (Below.refl _ _) mq
    exact ⟨rfl, F, HDw.out.below hk, HJw.out.below hk, fun k hk => .inl hk, Keep.of_below hk _⟩
end Jrn
end Go.Proofs.YtihgmlcmdpmhhaaDoor
/- A disk, and a journal on it, behind a mark b of the heap: the operations. -/
namespace Go.Proofs.YtihgmlcmdpmhhaaDoor
set_option linter.unusedVariables false
set_option linter.unusedSimpArgs false
namespace Jrn
open Go.RowKit Mem Apn Wire
structure Dn (b : Nat) (w : World) (P : Nat) (s : DS) : Prop where
  ex : ∃ F, Dk w F P s ∧ ∀ k, F k → b ≤ k ∧ k < w.heap.size
structure Jn (b : Nat) (w : World) (J P : Nat) (s : DS) (j : JS) : Prop where
  ex : ∃ F, Dk w F P s ∧ Jk w F J P j ∧ ∀ k, F k → b ≤ k ∧ k < w.heap.size
  ge : b ≤ J
theorem Jn.dn {b : Nat} {w : World} {J P : Nat} {s : DS} {j : JS} (h : Jn b w J P s j) : Dn b w P s := by
  obtain ⟨F, h1, h2, h3⟩ := h.ex
  exact ⟨F, h1, h3⟩
theorem Dn.below {b : Nat} {w w' : World} {P : Nat} {s : DS} (h : Dn b w P s) (hb : Below w.heap.size w w') : Dn b w' P s := by
  obtain ⟨F, h1, h2⟩ := h.ex
  exact ⟨F, h1.below hb, fun k hk => ⟨(h2 k hk).1, Nat.lt_of_lt_of_le (h2 k hk).2 hb.size⟩⟩
theorem Jn.below {b : Nat} {w w' : World} {J P : Nat} {s : DS} {j : JS} (h : Jn b w J P s j) (hb : Below w.heap.size w w') : Jn b w' J P s j := by
  obtain ⟨F, h1, h2, h3⟩ := h.ex
  exact ⟨⟨F, h1.below hb, h2.below hb, fun k hk => ⟨(h3 k hk).1, Nat.lt_of_lt_of_le (h3 k hk).2 hb.size⟩⟩, h.ge⟩
/-- Blocks from b on alone were written. -/
def From (b : Nat) (w w' : World) : Prop := Keep (fun k => b ≤ k) w w'
theorem From.trans {b : Nat} {w w1 w2 : World} (h : From b w w1) (k : From b w1 w2) : From b w w2 := Keep.trans h k
theorem From.of_below {b : Nat} {w w' : World} (h : Below w.heap.size w w') : From b w w' := Keep.of_below h _
theorem From.to_below {w w' : World} (h : From w.heap.size w w') : Below w.heap.size w w' := Keep.to_below h (fun i hi h => by omega)
theorem dn_new (ok : Nat → Prop) (A : Option Addr) (n c : Nat) (b : List Int) (w : World) (hr : RdN w ok .u8 A n b) (hn : n ≤ 1000000000) :
    Calls Tryd.prog 25 #[.slice A n c] w fun e w' => ∃ P, e = .returned (.pointer (some ⟨P, 0, none⟩)) ∧ Dn w.heap.size w' P (newS b) ∧ Below w.heap.size w w' :=
  (new_any ok A n c b w hr hn).mono fun e w' ⟨P, h1, h2, h3, h4⟩ => ⟨P, h1, ⟨_, h3, fun k hk => hk⟩, h4⟩
theorem dn_open (b P : Nat) (s : DS) (w : World) (h : Dn b w P s) (hs : s.Good) (hl : s.B.length ≤ 1000000000) (hf : s.failed ≤ 4611686018427387903) (hb : Byt s.B) (ho : (openS s).2 = true) (hbw : b ≤ w.heap.size) :
    Calls Tryd.prog 26 #[.pointer (some ⟨P, 0, none⟩)] w fun e w' => ∃ J v, e = .returned (.tuple #[.pointer (some ⟨J, 0, none⟩), v, .nilIface]) ∧ Rows w' w.heap.size v (scan s.B).1 ∧ Jn b w' J P (openS s).1 (openJ s) ∧ From b w w' := by
  obtain ⟨F, h1, h2⟩ := h.ex
  refine (open_any F P s w h1 hs hl hf hb (fun k hk => (h2 k hk).2)).mono ?_
  rintro e w' (⟨_, J, v, w2, F', he, hR, hB, hK, hD, hJ, hF, hJJ⟩ | ⟨h0, _⟩)
  · refine ⟨J, v, he, hR.keep hK (fun k hk hk2 hf => ?_), ⟨⟨F', hD, hJ, fun k hk => ?_⟩, ?_⟩, ?_⟩
    · have := (h2 k hf).2; omega
    · have hs1 := hK.size
      have hs2 := hB.size
      rcases hF k hk with h | h
      · exact ⟨(h2 k h).1, by have := (h2 k h).2; omega⟩
      · exact ⟨by omega, h.2⟩
    · have := hB.size; omega
    · exact (Keep.of_below hB _).trans (hK.mono (fun i _ h => (h2 i h).1))
  · rw [h0] at ho; cases ho
theorem jn_append (b J P : Nat) (s : DS) (j : JS) (ok : Nat → Prop) (A : Option Addr) (n c : Nat) (r : List Int) (w : World) (h : Jn b w J P s j) (hs : s.Good) (hr : RdN w ok .u8 A n r) (hb : Byt r) (hn : n ≤ 140737488355328) (hl : j.last ≤ 4611686018427387904) (hbw : b ≤ w.heap.size) :
    Calls Tryd.prog 27 #[.pointer (some ⟨J, 0, none⟩), .slice A n c] w fun e w' => e = .returned (.tuple #[.int .i64 (appS s j r).2.2.1, (appS s j r).2.2.2]) ∧ Jn b w' J P (appS s j r).1 (appS s j r).2.1 ∧ From b w w' := by
  obtain ⟨F, h1, h2, h3⟩ := h.ex
  refine (append_any F J P s j ok A n c r w h1 h2 hs hr hb (fun k hk => (h3 k hk).2) hn hl).mono ?_
  rintro e w' ⟨he, F', hD, hJ, hF, hK⟩
  have hs1 := hK.size
  refine ⟨he, ⟨⟨F', hD, hJ, fun k hk => ?_⟩, h.ge⟩, hK.mono (fun i _ hi => ?_)⟩
  · rcases hF k hk with h | h
    · exact ⟨(h3 k h).1, by have := (h3 k h).2; omega⟩
    · exact ⟨by omega, h.2⟩
  · rcases hi with hi | hi
    · exact (h3 i hi).1
    · subst hi; exact h.ge
theorem jn_sync (b J P : Nat) (s : DS) (j : JS) (w : World) (h : Jn b w J P s j) (hs : s.Good) (hbw : b ≤ w.heap.size) :
    Calls Tryd.prog 28 #[.pointer (some ⟨J, 0, none⟩)] w fun e w' => e = .returned (.tuple #[.int .i64 (jsyncS s j).2.2.1, (jsyncS s j).2.2.2]) ∧ Jn b w' J P (jsyncS s j).1 (jsyncS s j).2.1 ∧ From b w w' := by
  obtain ⟨F, h1, h2, h3⟩ := h.ex
  refine (jsync_any F J P s j w h1 h2 hs (fun k hk => (h3 k hk).2)).mono ?_
  rintro e w' ⟨he, F', hD, hJ, hF, hK⟩
  have hs1 := hK.size
  refine ⟨he, ⟨⟨F', hD, hJ, fun k hk => ?_⟩, h.ge⟩, hK.mono (fun i _ hi => ?_)⟩
  · rcases hF k hk with h | h
    · exact ⟨(h3 k h).1, by have := (h3 k h).2; omega⟩
    · exact ⟨by omega, h.2⟩
  · rcases hi with hi | hi
    · exact (h3 i hi).1
    · subst hi; exact h.ge
theorem jn_last (b J P : Nat) (s : DS) (j : JS) (w : World) (h : Jn b w J P s j) :
    Calls Tryd.prog 29 #[.pointer (some ⟨J, 0, none⟩)] w fun e w' => e = .returned (.tuple #[.int .i64 j.last, .int .i64 j.synced]) ∧ Jn b w' J P s j ∧ Below w.heap.size w w' := by
  obtain ⟨F, h1, h2, h3⟩ := h.ex
  refine (last_any F J P j w h2).mono ?_
  rintro e w' ⟨he, m, rfl⟩
  have hb : Below w.heap.size w (w.drewN m) := below_drewN (Below.refl _ _) m
  exact ⟨he, h.below hb, hb⟩
theorem jn_crash (b J P : Nat) (s : DS) (j : JS) (k : Int) (w : World) (h : Jn b w J P s j) (hs : s.Good) (hbw : b ≤ w.heap.size) :
    Calls Tryd.prog 30 #[.pointer (some ⟨P, 0, none⟩), .agg #[.int .i64 k]] w fun e w' => e = .returned (.tuple #[]) ∧ Jn b w' J P (crashS s k) j ∧ From b w w' := by
  obtain ⟨F, h1, h2, h3⟩ := h.ex
  refine (crash_any F P s k w h1 hs (fun k hk => (h3 k hk).2)).mono ?_
  rintro e w' ⟨he, hD, hK⟩
  have hs1 := hK.size
  refine ⟨he, ⟨⟨_, hD, h2.next hK, fun k hk => ?_⟩, h.ge⟩, hK.mono (fun i _ hi => (h3 i hi).1)⟩
  rcases hk with hk | hk
  · exact ⟨(h3 k hk).1, by have := (h3 k hk).2; omega⟩
  · exact ⟨by omega, hk.2⟩
theorem jn_revive (b J P : Nat) (s : DS) (j : JS) (w : World) (h : Jn b w J P s j) :
    Calls Tryd.prog 31 #[.pointer (some ⟨P, 0, none⟩)] w fun e w' => e = .returned (.tuple #[]) ∧ Jn b w' J P (reviveS s) j ∧ From b w w' := by
  obtain ⟨F, h1, h2, h3⟩ := h.ex
  refine (revive_any F P s w h1).mono ?_
  rintro e w' ⟨he, hD, hK⟩
  have hs1 := hK.size
  exact ⟨he, ⟨⟨F, hD, h2.keep hK (fun k e => by subst e; exact h1.pF), fun k hk => ⟨(h3 k hk).1, by have := (h3 k hk).2; omega⟩⟩, h.ge⟩, hK.mono (fun i _ hi => by subst hi; exact (h3 _ h1.pF).1)⟩
/-! Without a failure of the power. -/
theorem doesS_idle {s : DS} (h : s.inn = 0) : doesS s = (s, false) := by unfold doesS; rw [if_pos h]
/-- What Open makes of a disk that doesn't fail. -/
def openI (s : DS) : DS := if (scan s.B).2.1 < s.B.length then syncd (cutS s (scan s.B).2.1) else syncd s
theorem openS_idle {s : DS} (hd : s.dead = false) (hi : s.inn = 0) : openS s = (openI s, true) := by
  unfold openS openI openC
  rw [if_neg (by simp [hd])]
  split
  · have : doesS (cutS s (scan s.B).2.1) = (cutS s (scan s.B).2.1, false) := doesS_idle hi
    rw [this]
    simp [this]
  · simp [doesS_idle hi]
theorem appS_idle {s : DS} {j : JS} {r : List Int} (hd : s.dead = false) (hi : s.inn = 0) (hf : s.failed = j.fl) (hr : r.length ≤ 65536) (hl : s.B.length + (frameL (j.last + 1) r).length ≤ 67108864) :
    appS s j r = (addS s (frameL (j.last + 1) r), (⟨j.fl, j.last + 1, j.synced⟩ : JS), ((j.last : Int) + 1), Value.nilIface) := by
  have h1 : doesS (addS s (frameL (j.last + 1) r)) = (addS s (frameL (j.last + 1) r), false) := doesS_idle hi
  have h2 : writeOk s (frameL (j.last + 1) r) = true := by unfold writeOk; rw [h1, hd, decide_eq_true hl]; rfl
  unfold appS
  rw [if_neg (by simpa using hf), if_neg (by omega), h2, if_pos rfl]
  unfold writeS
  rw [if_neg (by simp [hd]), if_neg (by omega), h1]
theorem jsyncS_idle {s : DS} {j : JS} (hd : s.dead = false) (hi : s.inn = 0) (hf : s.failed = j.fl) :
    jsyncS s j = (syncd s, (⟨j.fl, j.last, j.last⟩ : JS), (j.last : Int), Value.nilIface) := by
  have h1 := doesS_idle hi
  have h2 : syncOk s = true := by unfold syncOk; rw [h1, hd]; rfl
  unfold jsyncS
  rw [if_neg (by simpa using hf), h2, if_pos rfl, (syncOk_ok h2).2, h1]
end Jrn
end Go.Proofs.YtihgmlcmdpmhhaaDoor
