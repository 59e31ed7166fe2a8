/- WireOneWay: the walk. -/
import Derived.Test.YthkhemcbkcoliaaOneWay
namespace Go.Proofs.Ythkhemcbkcoliaa
set_option linter.unusedVariables false
set_option linter.unusedSimpArgs false
namespace Wire
open Go.RowKit Mem Kit

def okAnd (ok : Nat → Prop) (h : Nat) : Nat → Prop := fun k => ok k ∧ k < h
theorem Rdr.own_lt {w : World} {ok : Nat → Prop} {B : Nat} {A : Option Addr} {n c : Nat} {s : RS} (h : Rdr w ok B A n c s) : Rdr w (okAnd ok w.heap.size) B A n c s :=
  ⟨h.blk, RdV.lt h.rd (by omega), h.cap, h.len, h.byt, fun hb => h.ne hb.1⟩

set_option maxHeartbeats 4000000 in
set_option maxRecDepth 1000000 in
theorem oneWay_any (A0 A1 : Option Addr) (n c m c1 : Nat) (bs ks : List Int) (w : World) (hr : RdN w (fun k => k < w.heap.size) .u8 A0 n bs) (hk : RdN w (fun k => k < w.heap.size) .i64 A1 m ks) (hc : n ≤ c)
    (hn : n ≤ 140737488351232) (hm : m ≤ 17592186043904) (hb : Byt bs) (hki : ∀ x ∈ ks, I64 x) :
    Calls Try.prog 6 #[.slice A0 n c, .slice A1 m c1] w fun e w' => e = .returned (.bool true) ∧ Below w.heap.size w w' := by
  have Hr := Held.mk hr
  have Hk := Held.mk hk
  have Hb := Held.mk hb
  have Hki := Held.mk hki
  have Hn := Held.mk hr.len
  have Hm := Held.mk hk.len
  clear hr hk hb hki
  go_enter Try.func6, Try.ntmps6
  generalize hW0 : w.heap.size = W0 at *
  have HW0 := Held.mk hW0
  clear hW0
  go_wp2_with fail
  refine (newReader_any _ A0 n c bs w Hr.out (by omega) hc Hb.out).mono ?_
  rintro e w1 ⟨B, ok0, A5, n5, c5, rfl, hB, hok, hR, hb1⟩
  rw [HW0.out] at hB hok hb1
  have HR1 := Held.mk hR.own_lt
  have Hok : Held (∀ k, okAnd ok0 w1.heap.size k → W0 ≤ k ∧ k < w1.heap.size) := ⟨fun k h => ⟨hok k h.1, h.2⟩⟩
  have hB2 : B < w1.heap.size := hR.blk.lt
  have Hb1 := Held.mk hb1
  have hs1 := hb1.size
  rw [HW0.out] at hs1
  clear hR hok hb1
  generalize okAnd ok0 w1.heap.size = ok5 at *
  go_wp2_with fail
  refine (newWriter_any _).mono ?_
  rintro e w2 ⟨rfl, hw2, hb2⟩
  have hs2 := hb2.size
  have HR2 := Held.mk (HR1.out.keep (Keep.of_below hb2 (fun _ => False)) (fun h => h) (fun _ _ h => h))
  have Hw2 := Held.mk hw2
  have Hb2 : Held (Below W0 w w2) := ⟨Hb1.out.trans (hb2.mono hs1)⟩
  generalize hW1 : w1.heap.size = W1 at *
  have hlt2 : W1 < w2.heap.size := hw2.blk.lt
  clear hw2 hb2 Hb1 HR1 hW1
  go_wp2_with fail
  refine (works_any _).mono ?_
  rintro e w3 ⟨rfl, hb3⟩
  have hs3 := hb3.size
  have HR3 := Held.mk (HR2.out.keep (Keep.of_below hb3 (fun _ => False)) (fun h => h) (fun _ _ h => h))
  have Hw3 := Held.mk (Hw2.out.keep (Keep.of_below hb3 (fun k => w2.heap.size ≤ k)) (by omega) (fun k hk => by cases hk))
  have Hb3 : Held (Below W0 w w3) := ⟨Hb2.out.trans (hb3.mono (by have := Hb2.out.size; have := HW0.out; omega))⟩
  clear hb3 HR2 Hw2 Hb2
  go_wp2
  go_loopw [7] (fun i wr => ∃ (k : Nat) (v : Value) (ys : List Int) (s : RS) (A6 : Option Addr) (n6 c6 : Nat), i = .int .i64 k ∧ k ≤ m ∧ Held (Wr wr W1 W1 v ys) ∧ Held (Rdr wr ok5 B A6 n6 c6 s) ∧ Held (Below W0 w wr) ∧ Held (Sofar bs ys s) ∧ ys.length + s.xs.length ≤ n + k) (fun i _ => m - (intOf i).toNat)
  case atStart => exact ⟨0, _, [], ⟨bs, .ok⟩, _, _, _, rfl, Nat.zero_le _, Hw3, HR3, Hb3, ⟨fun _ => rfl⟩, by simp [Hn.out]⟩
  case round =>
    obtain ⟨k, v, ys, s, A6, n6, c6, rfl, hkm, HW, HR, HB, HS, hlen⟩ := hrel
    clear Hw3 HR3 Hb3
    have Hfar : Held (∀ b, v.ownBlock = some b → W1 ≤ b) := ⟨fun b hb => own_ge HW.out.own b hb⟩
    by_cases hlt : k < m
    · have hkr : RdN wr (fun k => k < W0) .i64 A1 m ks := by
        have := Hk.out.keep (Keep.of_below (by rw [HW0.out]; exact HB.out) (fun k => ¬ k < W0)) (fun k hk => by simpa using hk)
        exact this
      obtain ⟨ad, rfl, hcell⟩ := hkr.at_ hlt
      have hyi : I64 (ks.getD k 0) := by
        have h1 : k < ks.length := by rw [Hm.out]; exact hlt
        rw [List.getD_eq_getElem?_getD, List.getElem?_eq_getElem h1]
        exact Hki.out _ (List.getElem_mem h1)
      generalize ks.getD k 0 = y at *
      clear hkr
      go_wp2_with fail
      refine (pick_any y 3 wr hyi (by omega) (by omega)).mono ?_
      rintro e w4 ⟨rfl, rfl⟩
      have hp : y % 3 = 0 ∨ y % 3 = 1 ∨ y % 3 = 2 := by omega
      generalize y % 3 = p at *
      clear hyi hcell
      rcases hp with rfl | rfl | rfl
      · go_wp2_with fail
        refine (oneU ok5 B A6 n6 c6 s wr HR.out).mono ?_
        rintro e w4 ⟨x, s', A', n', c', rfl, hx, HR4, HK4, HO⟩
        have HW4 := Held.mk (HW.out.keep HK4.out (by omega) (fun b hb e => by have := Hfar.out b hb; omega))
        have hol := HO.out.len
        have hs4 := HK4.out.size
        go_wp2_with fail
        refine (wuint_any W1 W1 v ys x w4 hx (by omega) HW4.out).mono ?_
        rintro e w5 ⟨rfl, v', hw5, hk5, hat⟩
        have HW5 := Held.mk hw5
        have HR5 := Held.mk (HR4.out.keep hk5 (fun h => by rcases h with h | h; · omega
                                                           · have := Hfar.out _ h; omega) (fun b hb h => by
          have := (Hok.out b hb).2
          rcases h with h | h
          · omega
          · have := Hfar.out _ h; omega))
        have HB5 : Held (Below W0 w w5) := ⟨by
          have h1 : Keep (fun k => W0 ≤ k) w w5 := ((Keep.of_below (by rw [HW0.out]; exact HB.out) (fun k => W0 ≤ k)).then HK4.out (fun i _ hi => by omega)).then hk5 (fun i _ hi => by
            rcases hi with hi | hi
            · omega
            · have := Hfar.out _ hi; omega)
          rw [← HW0.out]
          exact h1.to_below (fun i hi h => by have := HW0.out; omega)⟩
        clear hw5 hk5
        go_wp2
        go_roundw
        case rel => exact ⟨k + 1, v', _, s', _, _, _, by go_num, by omega, HW5, HR5, HB5, ⟨HO.out.so _ _ HS.out⟩, by rw [List.length_append]; omega⟩
        case measure => simp [intOf]; omega
      · go_wp2_with fail
        refine (oneI ok5 B A6 n6 c6 s wr HR.out).mono ?_
        rintro e w4 ⟨x, s', A', n', c', rfl, hx, HR4, HK4, HO⟩
        have HW4 := Held.mk (HW.out.keep HK4.out (by omega) (fun b hb e => by have := Hfar.out b hb; omega))
        have hol := HO.out.len
        have hs4 := HK4.out.size
        go_wp2_with fail
        refine (wint_any W1 W1 v ys x w4 hx (by omega) HW4.out).mono ?_
        rintro e w5 ⟨rfl, v', hw5, hk5, hat⟩
        have HW5 := Held.mk hw5
        have HR5 := Held.mk (HR4.out.keep hk5 (fun h => by rcases h with h | h; · omega
                                                           · have := Hfar.out _ h; omega) (fun b hb h => by
          have := (Hok.out b hb).2
          rcases h with h | h
          · omega
          · have := Hfar.out _ h; omega))
        have HB5 : Held (Below W0 w w5) := ⟨by
          have h1 : Keep (fun k => W0 ≤ k) w w5 := ((Keep.of_below (by rw [HW0.out]; exact HB.out) (fun k => W0 ≤ k)).then HK4.out (fun i _ hi => by omega)).then hk5 (fun i _ hi => by
            rcases hi with hi | hi
            · omega
            · have := Hfar.out _ hi; omega)
          rw [← HW0.out]
          exact h1.to_below (fun i hi h => by have := HW0.out; omega)⟩
        clear hw5 hk5
        go_wp2
        go_roundw
        case rel => exact ⟨k + 1, v', _, s', _, _, _, by go_num, by omega, HW5, HR5, HB5, ⟨HO.out.so _ _ HS.out⟩, by rw [List.length_append]; omega⟩
        case measure => simp [intOf]; omega
      · go_wp2_with fail
        refine (oneT ok5 B A6 n6 c6 s wr HR.out).mono ?_
        rintro e w4 ⟨x, s', A', n', c', rfl, hx, HR4, HK4, HO⟩
        have HW4 := Held.mk (HW.out.keep HK4.out (by omega) (fun b hb e => by have := Hfar.out b hb; omega))
        have hol := HO.out.len
        have hs4 := HK4.out.size
        go_wp2_with fail
        refine (wtext_any W1 W1 v ys x w4 (by omega) (by omega) HW4.out).mono ?_
        rintro e w5 ⟨rfl, v', hw5, hk5, hat⟩
        have HW5 := Held.mk hw5
        have HR5 := Held.mk (HR4.out.keep hk5 (fun h => by rcases h with h | h; · omega
                                                           · have := Hfar.out _ h; omega) (fun b hb h => by
          have := (Hok.out b hb).2
          rcases h with h | h
          · omega
          · have := Hfar.out _ h; omega))
        have HB5 : Held (Below W0 w w5) := ⟨by
          have h1 : Keep (fun k => W0 ≤ k) w w5 := ((Keep.of_below (by rw [HW0.out]; exact HB.out) (fun k => W0 ≤ k)).then HK4.out (fun i _ hi => by omega)).then hk5 (fun i _ hi => by
            rcases hi with hi | hi
            · omega
            · have := Hfar.out _ hi; omega)
          rw [← HW0.out]
          exact h1.to_below (fun i hi h => by have := HW0.out; omega)⟩
        clear hw5 hk5
        go_wp2
        go_roundw
        case rel => exact ⟨k + 1, v', _, s', _, _, _, by go_num, by omega, HW5, HR5, HB5, ⟨HO.out.so _ _ HS.out⟩, by rw [List.length_append]; omega⟩
        case measure => simp [intOf]; omega
    · have hk1 : (m : Int) ≤ k := by omega
      go_wp2_with fail
      refine (end_any ok5 B A6 n6 c6 s wr HR.out).mono ?_
      rintro e w4 ⟨rfl, rfl⟩
      have hE : Held (endM s = .ok → s.er = .ok ∧ s.xs = []) := ⟨end_ok s⟩
      generalize endM s = en at *
      cases en with
      | no q =>
        simp only [Er.enc]
        go_wp2
        go_ret
        exact ⟨rfl, HB.out⟩
      | ref q1 q2 =>
        simp only [Er.enc]
        go_wp2
        go_ret
        exact ⟨rfl, HB.out⟩
      | ok =>
        obtain ⟨he1, he2⟩ := hE.out rfl
        have hys : ys = bs := by
          have := HS.out he1
          rw [he2, List.append_nil] at this
          exact this
        have Hys := Held.mk hys
        clear hys he1 he2
        simp only [Er.enc]
        go_wp2_with fail
        refine (done_any W1 W1 v ys wr (by omega) HW.out).mono ?_
        rintro e w5 ⟨v5, rfl, ho5, hb5⟩
        obtain ⟨A8, c8, rfl, hc8, hr8⟩ := RdN.of_own ho5
        have Hr8 := Held.mk hr8
        have HB5 : Held (Below W0 w w5) := ⟨HB.out.trans (hb5.mono (by have := HB.out.size; have := HW0.out; omega))⟩
        have Hr9 : Held (RdN w5 (fun k => k < W0) .u8 A0 n bs) := ⟨by
          have := Hr.out.keep (Keep.of_below (by rw [HW0.out]; exact HB5.out) (fun k => ¬ k < W0)) (fun k hk => by simpa using hk)
          exact this⟩
        clear ho5 hb5 hr8
        go_wp2_with fail
        refine (same_any _ _ A8 A0 ys.length n c8 c ys bs w5 Hr8.out Hr9.out (by omega) (by omega)).mono ?_
        rintro e w6 ⟨rfl, q, rfl⟩
        have hd : decide (ys = bs) = true := decide_eq_true Hys.out
        rw [hd]
        go_wp2
        go_ret
        exact ⟨rfl, below_drewN HB5.out q⟩
end Wire
end Go.Proofs.Ythkhemcbkcoliaa
