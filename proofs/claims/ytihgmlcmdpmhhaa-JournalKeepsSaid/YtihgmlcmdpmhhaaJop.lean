/- The program's Open: walked. -/
import Derived.Test.YtihgmlcmdpmhhaaSre
import Derived.Test.YtihgmlcmdpmhhaaDdq
import Derived.Test.YtihgmlcmdpmhhaaDdr
namespace Go.Proofs.Ytihgmlcmdpmhhaa
set_option linter.unusedVariables false
set_option linter.unusedSimpArgs false
namespace Jrn
open Go.RowKit Mem Apn Wire
/-- A journal in memory, at block J, on the disk at P whose blocks are F. -/
structure Jk (w : World) (F : Nat → Prop) (J P : Nat) (j : JS) : Prop where
  ex : ∃ bd ba, Blk w J 78 #[.func (.func 32) #[.pointer (some ⟨P, 0, none⟩)] #[], .func (.func 31) #[.pointer (some ⟨P, 0, none⟩)] #[], .func (.func 33) #[] #[.pointer (some ⟨bd, 0, none⟩), .pointer (some ⟨ba, 0, none⟩)], .int .i64 j.last, .int .i64 j.synced] ∧
    Blk w bd 35 #[.pointer (some ⟨P, 0, none⟩)] ∧ Blk w ba 3 #[.int .i64 j.fl] ∧ ¬ F bd ∧ ¬ F ba
  jF : ¬ F J
theorem doesS_dead {s : DS} (h : (doesS s).2 = false) : (doesS s).1.dead = s.dead := by
  unfold doesS at h ⊢
  split
  · rfl
  · split
    · rfl
    · rename_i h1 h2
      rw [if_neg h1, if_neg h2] at h
      simp at h
theorem failS_good {s : DS} (h : s.Good) (k : Int) (hf : s.failed ≤ 4611686018427387903) : (failS s k).Good := by
  have h1 := leftS_len s k h
  exact ⟨Nat.le_refl _, h1, h1, by simp [failS]; omega, by simp [failS], h.keep⟩
theorem doesS_good {s : DS} (h : s.Good) (hf : s.failed ≤ 4611686018427387903) : (doesS s).1.Good := by
  unfold doesS
  split
  · exact h
  · split
    · exact ⟨h.least, h.lb, h.ld, h.failed, by have := h.inn; simp only; omega, h.keep⟩
    · exact failS_good (s := ⟨s.B, s.D, s.least, s.dead, s.failed, 0, s.keep⟩) ⟨h.least, h.lb, h.ld, h.failed, by simp, h.keep⟩ _ hf
theorem syncS_no {s : DS} (hd : s.dead = false) (h : (doesS s).2 = true) : syncS s = ((doesS s).1, deadV wSync) := by
  unfold syncS
  rw [if_neg (by simp [hd])]
  obtain ⟨a, b, hd⟩ : ∃ a b, doesS s = (a, b) := ⟨_, _, rfl⟩
  rw [hd] at h ⊢
  simp only at h
  rw [h]; rfl
theorem syncS_ok {s : DS} (hd : s.dead = false) (h : (doesS s).2 = false) : syncS s = (syncd (doesS s).1, .nilIface) := by
  unfold syncS
  rw [if_neg (by simp [hd])]
  obtain ⟨a, b, hd⟩ : ∃ a b, doesS s = (a, b) := ⟨_, _, rfl⟩
  rw [hd] at h ⊢
  simp only at h
  rw [h]; rfl
theorem nw_up {F Fx : Nat → Prop} {w w2 W w4 : World} (h : ∀ k, Fx k → F k ∨ (w2.heap.size ≤ k ∧ k < W.heap.size)) (h1 : w.heap.size ≤ w2.heap.size) (h2 : W.heap.size ≤ w4.heap.size) : ∀ j, Nw Fx W w4 j → w2.heap.size ≤ W.heap.size → Nw F w w4 j := by
  intro j hj h3
  rcases hj with hj | hj
  · rcases h j hj with h4 | h4
    · exact .inl h4
    · exact .inr ⟨by omega, by omega⟩
  · exact .inr ⟨by omega, hj.2⟩
/-- What Open leaves. -/
def OpenP (F : Nat → Prop) (P : Nat) (s : DS) (w : World) (e : Ending) (w' : World) : Prop :=
  ((openS s).2 = true ∧ ∃ (J : Nat) (v : Value) (w2 : World) (F' : Nat → Prop), e = .returned (.tuple #[.pointer (some ⟨J, 0, none⟩), v, .nilIface]) ∧ Rows w2 w.heap.size v (scan s.B).1 ∧ Below w.heap.size w w2 ∧ Keep F w2 w' ∧
      Dk w' F' P (openS s).1 ∧ Jk w' F' J P (openJ s) ∧ (∀ k, F' k → F k ∨ (w2.heap.size ≤ k ∧ k < w'.heap.size)) ∧ w2.heap.size ≤ J) ∨
  ((openS s).2 = false ∧ e = .returned (.tuple #[.pointer none, .slice none 0 0, openE s]) ∧ Dk w' (Nw F w w') P (openS s).1 ∧ Keep F w w')
set_option maxHeartbeats 4000000 in
set_option maxRecDepth 100000 in
theorem open_any (F : Nat → Prop) (P : Nat) (s : DS) (w : World) (h : Dk w F P s) (hs : s.Good) (hl : s.B.length ≤ 1000000000) (hfl : s.failed ≤ 4611686018427387903) (hb : Byt s.B) (hF : ∀ k, F k → k < w.heap.size) :
    Calls Try.prog 12 #[.pointer (some ⟨P, 0, none⟩)] w (OpenP F P s w) := by
  have HBx := Held.mk (Blk.new w 35 #[.pointer (some ⟨P, 0, none⟩)])
  have Hb0 : Held (Below w.heap.size w (w.alloc (.cells #[.pointer (some ⟨P, 0, none⟩)] 35))) := ⟨(Below.refl _ _).alloc (Nat.le_refl _) _⟩
  have HDw := Held.mk h
  have HD0 := Held.mk (h.below Hb0.out)
  have HGd := Held.mk hs
  have HB := Held.mk hb
  have HFF := Held.mk hF
  have HLn := Held.mk hl
  have Hfl := Held.mk hfl
  clear hfl
  have hbd0 := HBx.out.cell 0
  have HO := Held.mk (bytes_any F P s _ HD0.out hs)
  cases hd : s.dead with
  | true =>
    rw [hd] at HO
    simp only [if_true] at HO
    have HS1 : Held ((openS s) = (s, false) ∧ openE s = deadV wRead) := ⟨by unfold openS openE; simp [hd]⟩
    clear h hs hl hb hF hd
    go_enter Try.func12, Try.ntmps12
    go_wp2_with fail
    refine HO.out.mono ?_
    rintro e w1 ⟨v, rfl, hv, hb1⟩
    have HB1 : Held (Below w.heap.size w w1) := ⟨Hb0.out.trans (hb1.mono (by simp))⟩
    have HB01 := Held.mk hb1
    clear hv hb1
    go_wp2_with fail
    go_ret3
    refine .inr ⟨by rw [HS1.out.1], by rw [HS1.out.2]; rfl, ?_, Keep.of_below HB1.out F⟩
    rw [HS1.out.1]
    exact (HDw.out.below HB1.out).mono (fun j h => .inl h)
  | false =>
    rw [hd] at HO
    simp only [Bool.false_eq_true, if_false] at HO
    have HDd := Held.mk hd
    obtain ⟨n, hn⟩ : ∃ n, s.B.length = n := ⟨_, rfl⟩
    have HN := Held.mk hn
    rw [hn] at hl
    obtain ⟨L, m, je, hsc⟩ : ∃ L m je, scan s.B = (L, m, je) := ⟨_, _, _, rfl⟩
    have HSc := Held.mk hsc
    have hft := scan_fits s.B hb
    rw [hsc, hn] at hft
    obtain ⟨hmn0, hLm, hRc⟩ := hft
    have HRc := Held.mk hRc
    simp only at hmn0 hLm
    obtain ⟨q, hq⟩ : ∃ q, L.length = q := ⟨_, rfl⟩
    have HLq := Held.mk hq
    rw [hq] at hLm
    clear h hs hb hF hd hn hsc hRc hq
    go_enter Try.func12, Try.ntmps12
    go_wp2_with fail
    refine HO.out.mono ?_
    rintro e w1 ⟨v, rfl, ⟨ho, A, rfl⟩, hb1⟩
    rw [HN.out]
    obtain ⟨A', c', e', hc', hr1⟩ := RdN.of_own ho
    simp only [Value.slice.injEq] at e'
    obtain ⟨rfl, -, rfl⟩ := e'
    rw [HN.out] at hr1
    have HScn := Held.mk (scan_any _ A n n s.B w1 hr1 (Nat.le_refl _) hl HB.out)
    rw [HSc.out] at HScn
    simp only at HScn
    have HB1 := Held.mk hb1
    clear ho hb1 hr1 hc' HO
    go_wp2_with fail
    refine HScn.out.mono ?_
    rintro e w2 ⟨v2, rfl, hRw, hb2⟩
    have Hs0 : Held ((w.alloc (.cells #[.pointer (some ⟨P, 0, none⟩)] 35)).heap.size = w.heap.size + 1) := ⟨by simp⟩
    have HB02 : Held (Below (w.alloc (.cells #[.pointer (some ⟨P, 0, none⟩)] 35)).heap.size (w.alloc (.cells #[.pointer (some ⟨P, 0, none⟩)] 35)) w2) := ⟨HB1.out.trans (hb2.mono HB1.out.size)⟩
    have HB2 : Held (Below w.heap.size w w2) := ⟨Hb0.out.trans (HB02.out.mono (by have := Hs0.out; omega))⟩
    have HRw : Held (Rows w2 w.heap.size v2 L) := ⟨hRw.rebase (by have := HB1.out.size; have := Hs0.out; omega)⟩
    have HBx2 : Held (Blk w2 w.heap.size 35 #[.pointer (some ⟨P, 0, none⟩)]) := ⟨by have h := HBx.out.keep (Keep.of_below HB02.out (fun _ => False)) (fun h => h); exact h⟩
    have HD2 := Held.mk (HDw.out.below HB2.out)
    have HF2 : Held (∀ k, F k → k < w2.heap.size) := ⟨fun k hk => Nat.lt_of_lt_of_le (HFF.out k hk) HB2.out.size⟩
    have Hw2 : Held (w.heap.size < w2.heap.size) := ⟨HBx2.out.lt⟩
    have hb2c := HBx2.out.cell 0
    clear hRw hb2 HScn
    by_cases hmn : m < n
    · have ecut : cutOp s (m : Int) = ((doesS (cutS s m)).1, errW wCut (doesS (cutS s m)).2) := by
        unfold cutOp
        rw [if_neg (by simp [HDd.out]), if_neg (by rw [HN.out]; omega), Int.toNat_natCast]; rfl
      have HCt := Held.mk (cut_any F P s (m : Int) w2 HD2.out HGd.out HF2.out)
      rw [ecut] at HCt
      have hmI : (m : Int) < (n : Int) := by omega
      cases hcd : (doesS (cutS s m)).2 with
      | true =>
        rw [hcd] at HCt
        simp only [errW] at HCt
        unfold deadV at HCt
        have HS1 : Held ((openS s).2 = false ∧ openE s = deadV wCut ∧ (openS s).1 = (doesS (cutS s m)).1) := ⟨by
          unfold openS openE openC
          rw [HSc.out, HN.out]
          simp [HDd.out, hmn, hcd]⟩
        clear ecut hcd
        go_wp2_with fail
        refine HCt.out.mono ?_
        rintro e w3 ⟨rfl, hD3, hK3⟩
        have HD3 := Held.mk hD3
        have HK3 := Held.mk hK3
        clear hD3 hK3 HCt
        go_wp2_with fail
        go_ret3
        refine .inr ⟨HS1.out.1, by rw [HS1.out.2.1]; rfl, ?_, ?_⟩
        · rw [HS1.out.2.2]
          exact HD3.out.mono (fun j h => h.imp id fun h => ⟨Nat.le_trans HB2.out.size h.1, h.2⟩)
        · exact (Keep.of_below HB2.out F).trans HK3.out
      | false =>
        rw [hcd] at HCt
        simp only [errW] at HCt
        have HCx : Held (openC s = ((doesS (cutS s m)).1, false)) := ⟨by unfold openC; rw [HSc.out, HN.out, if_pos (by simpa using hmn), ← hcd]⟩
        have HNd : Held ((doesS (cutS s m)).1.dead = false) := ⟨by rw [doesS_dead hcd]; exact HDd.out⟩
        have HGX : Held ((doesS (cutS s m)).1.Good) := ⟨doesS_good (goodCut HGd.out (by rw [HN.out]; omega)) Hfl.out⟩
        clear ecut hcd
        generalize (doesS (cutS s m)).1 = S at *
        go_wp2_with fail
        refine HCt.out.mono ?_
        rintro e W ⟨rfl, hD3, hK3⟩
        obtain ⟨Fx, hFx⟩ : ∃ Fx, Nw F w2 W = Fx := ⟨_, rfl⟩
        rw [hFx] at hD3
        have HDX := Held.mk hD3
        have HFs : Held (∀ k, Fx k → F k ∨ (w2.heap.size ≤ k ∧ k < W.heap.size)) := ⟨fun k hk => by rw [← hFx] at hk; exact hk⟩
        have HFX : Held (∀ k, Fx k → k < W.heap.size) := ⟨fun k hk => by rcases HFs.out k hk with h | h; exact Nat.lt_of_lt_of_le (HF2.out k h) hK3.size; exact h.2⟩
        have HKX : Held (Keep F w W) := ⟨(Keep.of_below HB2.out F).trans hK3⟩
        have HK2 := Held.mk hK3
        have HBX : Held (Blk W w.heap.size 35 #[.pointer (some ⟨P, 0, none⟩)]) := ⟨HBx2.out.keep hK3 (fun h => absurd (HFF.out _ h) (Nat.lt_irrefl _))⟩
        clear hD3 hK3 HCt hFx
        have HNb : Held (¬ Fx w.heap.size) := ⟨fun h => by rcases HFs.out _ h with h | h; exact absurd (HFF.out _ h) (Nat.lt_irrefl _); have := Hw2.out; omega⟩
        have hbW := HBX.out.cell 0
        have HSy := Held.mk (sync_any Fx P S W HDX.out HGX.out HFX.out)
        cases hsy : (doesS S).2 with
        | true =>
          have esy : syncS S = ((doesS S).1, deadV wSync) := syncS_no HNd.out hsy
          rw [esy] at HSy
          have HS1 : Held ((openS s).2 = false ∧ openE s = deadV wSync ∧ (openS s).1 = (doesS S).1) := ⟨by
            unfold openS openE
            rw [HCx.out]
            simp [HDd.out, hsy]⟩
          clear esy hsy
          unfold deadV at HSy
          go_wp2_with fail
          refine HSy.out.mono ?_
          rintro e w4 ⟨rfl, hD4, hK4⟩
          have HD4 := Held.mk hD4
          have HK4 := Held.mk hK4
          clear hD4 hK4 HSy
          go_wp2_with fail
          go_ret3
          refine .inr ⟨HS1.out.1, by rw [HS1.out.2.1]; rfl, ?_, ?_⟩
          · rw [HS1.out.2.2]
            exact HD4.out.mono (fun j h => nw_up HFs.out HB2.out.size HK4.out.size j h HK2.out.size)
          · exact HKX.out.then HK4.out (fun i hi h => by rcases HFs.out _ h with h | h; exact h; have := HB2.out.size; omega)
        | false =>
          have esy : syncS S = (syncd (doesS S).1, .nilIface) := syncS_ok HNd.out hsy
          rw [esy] at HSy
          have HS1 : Held ((openS s).2 = true ∧ (openS s).1 = syncd (doesS S).1) := ⟨by
            unfold openS
            rw [HCx.out]
            simp [HDd.out, hsy]⟩
          clear esy hsy
          go_wp2_with fail
          refine HSy.out.mono ?_
          rintro e w4 ⟨rfl, hD4, hK4⟩
          obtain ⟨u1, u2, ar, inn, h1, _⟩ := hD4.ex
          have c4 := h1.cell 4
          have HP4 := Held.mk h1.lt
          have HD4 := Held.mk hD4
          have HK4 := Held.mk hK4
          have HBb := Held.mk (HBX.out.keep HK4.out HNb.out)
          have b4 := HBb.out.cell 0
          have HS4 := Held.mk HK4.out.size
          clear hD4 hK4 HSy h1
          obtain ⟨Av, cv, rfl, hcv⟩ := HRw.out.slc
          rw [HLq.out] at HRw hcv
          rw [HLq.out]
          have a1 : ∀ u, (w4.alloc u).cell? ⟨w.heap.size, 0, none⟩ = some (.pointer (some ⟨P, 0, none⟩)) := fun u => (HBb.out.alloc u).cell 0
          generalize syncd (doesS S).1 = S4 at *
          have hst : ∀ (a : Addr) (m : Mode) (f : Fn) (x y : Array Value) (W : World), (store a (.func f x y) m).run Try.prog W = stored Try.prog W a (.func f x y) m := fun a m f x y W => run_store Try.prog W a _ m rfl
          go_wp2_with fail
          go_ret3
          have s1 := HB2.out.size
          have s2 := HK2.out.size
          have s4 := HK4.out.size
          have hbl : Below w4.heap.size w4 ((w4.alloc (.cells #[.int .i64 S4.failed] 3)).alloc (.cells #[.func (.func 32) #[.pointer (some ⟨P, 0, none⟩)] #[], .func (.func 31) #[.pointer (some ⟨P, 0, none⟩)] #[], .func (.func 33) #[] #[.pointer (some ⟨w.heap.size, 0, none⟩), .pointer (some ⟨w4.heap.size, 0, none⟩)], .int .i64 q, .int .i64 q] 78)) := ((Below.refl _ _).alloc (Nat.le_refl _) _).alloc (by simp) _
          refine .inl ⟨HS1.out.1, w4.heap.size + 1, _, w2, Nw Fx W w4, rfl, by rw [HSc.out]; exact HRw.out, HB2.out, ?_, ?_, ⟨⟨w.heap.size, w4.heap.size, ?_, ?_, ?_, ?_, ?_⟩, ?_⟩, ?_, by omega⟩
          · exact (HK2.out.then HK4.out (fun i hi h => by rcases HFs.out i h with h | h; exact h; omega)).below hbl
          · rw [HS1.out.2]
            exact HD4.out.below hbl
          · have hB := Blk.new (w4.alloc (.cells #[.int .i64 S4.failed] 3)) 78 #[.func (.func 32) #[.pointer (some ⟨P, 0, none⟩)] #[], .func (.func 31) #[.pointer (some ⟨P, 0, none⟩)] #[], .func (.func 33) #[] #[.pointer (some ⟨w.heap.size, 0, none⟩), .pointer (some ⟨w4.heap.size, 0, none⟩)], .int .i64 q, .int .i64 q]
            have esz : (w4.alloc (.cells #[.int .i64 S4.failed] 3)).heap.size = w4.heap.size + 1 := by simp
            rw [esz] at hB
            unfold openJ
            rw [HSc.out]
            simp only [HLq.out]
            exact hB
          · exact (HBb.out.alloc _).alloc _
          · unfold openJ
            rw [HS1.out.2]
            exact (Blk.new w4 _ _).alloc _
          · rintro (h | h)
            · exact HNb.out h
            · have := Hw2.out; omega
          · rintro (h | h)
            · have := HFX.out _ h; omega
            · omega
          · rintro (h | h)
            · have := HFX.out _ h; omega
            · omega
          · rintro k (h | h)
            · rcases HFs.out k h with h | h
              · exact .inl h
              · exact .inr ⟨h.1, by simp; omega⟩
            · exact .inr ⟨by omega, by simp; omega⟩

    · have hmI : ¬ (m : Int) < (n : Int) := by omega
      have HCx : Held (openC s = (s, false)) := ⟨by unfold openC; rw [HSc.out, HN.out, if_neg (by simpa using hmn)]⟩
      have HNd := HDd
      have HGX := HGd
      have HDX := HD2
      have HFs : Held (∀ k, F k → F k ∨ (w2.heap.size ≤ k ∧ k < w2.heap.size)) := ⟨fun k hk => .inl hk⟩
      have HFX := HF2
      have HKX : Held (Keep F w w2) := ⟨Keep.of_below HB2.out F⟩
      have HK2 : Held (Keep F w2 w2) := ⟨Keep.refl _ _⟩
      have HBX := HBx2
      have HNb : Held (¬ F w.heap.size) := ⟨fun h => by rcases HFs.out _ h with h | h; exact absurd (HFF.out _ h) (Nat.lt_irrefl _); have := Hw2.out; omega⟩
      have hbW := HBX.out.cell 0
      have HSy := Held.mk (sync_any F P s w2 HDX.out HGX.out HFX.out)
      cases hsy : (doesS s).2 with
      | true =>
        have esy : syncS s = ((doesS s).1, deadV wSync) := syncS_no HNd.out hsy
        rw [esy] at HSy
        have HS1 : Held ((openS s).2 = false ∧ openE s = deadV wSync ∧ (openS s).1 = (doesS s).1) := ⟨by
          unfold openS openE
          rw [HCx.out]
          simp [HDd.out, hsy]⟩
        clear esy hsy
        unfold deadV at HSy
        go_wp2_with fail
        refine HSy.out.mono ?_
        rintro e w4 ⟨rfl, hD4, hK4⟩
        have HD4 := Held.mk hD4
        have HK4 := Held.mk hK4
        clear hD4 hK4 HSy
        go_wp2_with fail
        go_ret3
        refine .inr ⟨HS1.out.1, by rw [HS1.out.2.1]; rfl, ?_, ?_⟩
        · rw [HS1.out.2.2]
          exact HD4.out.mono (fun j h => nw_up HFs.out HB2.out.size HK4.out.size j h HK2.out.size)
        · exact HKX.out.then HK4.out (fun i hi h => by rcases HFs.out _ h with h | h; exact h; have := HB2.out.size; omega)
      | false =>
        have esy : syncS s = (syncd (doesS s).1, .nilIface) := syncS_ok HNd.out hsy
        rw [esy] at HSy
        have HS1 : Held ((openS s).2 = true ∧ (openS s).1 = syncd (doesS s).1) := ⟨by
          unfold openS
          rw [HCx.out]
          simp [HDd.out, hsy]⟩
        clear esy hsy
        go_wp2_with fail
        refine HSy.out.mono ?_
        rintro e w4 ⟨rfl, hD4, hK4⟩
        obtain ⟨u1, u2, ar, inn, h1, _⟩ := hD4.ex
        have c4 := h1.cell 4
        have HP4 := Held.mk h1.lt
        have HD4 := Held.mk hD4
        have HK4 := Held.mk hK4
        have HBb := Held.mk (HBX.out.keep HK4.out HNb.out)
        have b4 := HBb.out.cell 0
        have HS4 := Held.mk HK4.out.size
        clear hD4 hK4 HSy h1
        obtain ⟨Av, cv, rfl, hcv⟩ := HRw.out.slc
        rw [HLq.out] at HRw hcv
        rw [HLq.out]
        have a1 : ∀ u, (w4.alloc u).cell? ⟨w.heap.size, 0, none⟩ = some (.pointer (some ⟨P, 0, none⟩)) := fun u => (HBb.out.alloc u).cell 0
        generalize syncd (doesS s).1 = S4 at *
        have hst : ∀ (a : Addr) (m : Mode) (f : Fn) (x y : Array Value) (w2 : World), (store a (.func f x y) m).run Try.prog w2 = stored Try.prog w2 a (.func f x y) m := fun a m f x y w2 => run_store Try.prog w2 a _ m rfl
        go_wp2_with fail
        go_ret3
        have s1 := HB2.out.size
        have s2 := HK2.out.size
        have s4 := HK4.out.size
        have hbl : Below w4.heap.size w4 ((w4.alloc (.cells #[.int .i64 S4.failed] 3)).alloc (.cells #[.func (.func 32) #[.pointer (some ⟨P, 0, none⟩)] #[], .func (.func 31) #[.pointer (some ⟨P, 0, none⟩)] #[], .func (.func 33) #[] #[.pointer (some ⟨w.heap.size, 0, none⟩), .pointer (some ⟨w4.heap.size, 0, none⟩)], .int .i64 q, .int .i64 q] 78)) := ((Below.refl _ _).alloc (Nat.le_refl _) _).alloc (by simp) _
        refine .inl ⟨HS1.out.1, w4.heap.size + 1, _, w2, Nw F w2 w4, rfl, by rw [HSc.out]; exact HRw.out, HB2.out, ?_, ?_, ⟨⟨w.heap.size, w4.heap.size, ?_, ?_, ?_, ?_, ?_⟩, ?_⟩, ?_, by omega⟩
        · exact (HK2.out.then HK4.out (fun i hi h => by rcases HFs.out i h with h | h; exact h; omega)).below hbl
        · rw [HS1.out.2]
          exact HD4.out.below hbl
        · have hB := Blk.new (w4.alloc (.cells #[.int .i64 S4.failed] 3)) 78 #[.func (.func 32) #[.pointer (some ⟨P, 0, none⟩)] #[], .func (.func 31) #[.pointer (some ⟨P, 0, none⟩)] #[], .func (.func 33) #[] #[.pointer (some ⟨w.heap.size, 0, none⟩), .pointer (some ⟨w4.heap.size, 0, none⟩)], .int .i64 q, .int .i64 q]
          have esz : (w4.alloc (.cells #[.int .i64 S4.failed] 3)).heap.size = w4.heap.size + 1 := by simp
          rw [esz] at hB
          unfold openJ
          rw [HSc.out]
          simp only [HLq.out]
          exact hB
        · exact (HBb.out.alloc _).alloc _
        · unfold openJ
          rw [HS1.out.2]
          exact (Blk.new w4 _ _).alloc _
        · rintro (h | h)
          · exact HNb.out h
          · have := Hw2.out; omega
        · rintro (h | h)
          · have := HFX.out _ h; omega
          · omega
        · rintro (h | h)
          · have := HFX.out _ h; omega
          · omega
        · rintro k (h | h)
          · rcases HFs.out k h with h | h
            · exact .inl h
            · exact .inr ⟨h.1, by simp; omega⟩
          · exact .inr ⟨by omega, by simp; omega⟩

end Jrn
end Go.Proofs.Ytihgmlcmdpmhhaa
