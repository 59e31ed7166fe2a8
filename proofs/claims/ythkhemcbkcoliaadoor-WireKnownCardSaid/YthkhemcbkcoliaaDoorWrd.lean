/- WireReads: the walk (under way). -/
import Derived.Test.YthkhemcbkcoliaaDoorTel5
import Derived.Test.YthkhemcbkcoliaaDoorPik
import Derived.Test.YthkhemcbkcoliaaDoorWorks
import Derived.Test.YthkhemcbkcoliaaDoorKept
import Derived.Test.YthkhemcbkcoliaaDoorOpen
namespace Go.Proofs.YthkhemcbkcoliaaDoor
set_option linter.unusedVariables false
set_option linter.unusedSimpArgs false
namespace Wire
open Go.RowKit Mem Apn Err Aps Kit
theorem Rdr.low {w : World} {ok : Nat → Prop} {B : Nat} {A : Option Addr} {n c : Nat} {s : RS} (h : Rdr w ok B A n c s) : Rdr w (fun k => ok k ∧ k < w.heap.size) B A n c s :=
  ⟨h.blk, RdV.lt h.rd (by decide), h.cap, h.len, h.byt, fun e => h.ne e.1⟩
/-- One record. -/
structure Get where
  on : Int
  kind : Int
  x : Int
  n : Int
def Get.cells (p : Get) : List Value := [.int .i64 p.on, .int .i64 p.kind, .int .u64 p.x, .int .i64 p.n]
structure Get.Good (p : Get) : Prop where
  on : -9223372036854775808 ≤ p.on ∧ p.on ≤ 9223372036854775807
  kind : -9223372036854775808 ≤ p.kind ∧ p.kind ≤ 9223372036854775807
  x : 0 ≤ p.x ∧ p.x ≤ 18446744073709551615
  n : -9223372036854775808 ≤ p.n ∧ p.n ≤ 9223372036854775807
theorem Get.cells_len (p : Get) : p.cells.length = 4 := rfl
/-- A slice of records that is read. -/
def RdGet (w : World) (ok : Nat → Prop) (A : Option Addr) (ps : List Get) : Prop := RdV w ok 4 A ps.length (ps.flatMap Get.cells)
theorem RdGet.at_ {w : World} {ok : Nat → Prop} {A : Option Addr} {ps : List Get} (h : RdGet w ok A ps) {k : Nat} (hk : k < ps.length) : ∃ ad, A = some ad ∧ ok ad.block ∧
    w.cell? (ad.add (k * 4)) = some (.int .i64 ps[k].on) ∧ w.cell? ⟨(ad.add (k * 4)).block, (ad.add (k * 4)).off + 1, none⟩ = some (.int .i64 ps[k].kind) ∧ w.cell? ⟨(ad.add (k * 4)).block, (ad.add (k * 4)).off + 2, none⟩ = some (.int .u64 ps[k].x) ∧ w.cell? ⟨(ad.add (k * 4)).block, (ad.add (k * 4)).off + 3, none⟩ = some (.int .i64 ps[k].n) := by
  obtain ⟨ad, e, hb, hc⟩ := h.2 (by omega)
  refine ⟨ad, e, hb, ?_, ?_, ?_, ?_⟩
  · exact hc _ _ (by rw [← Nat.add_zero (k * 4), Law.flat_get Get.cells 4 Get.cells_len ps k 0 hk (by omega)]; rfl)
  · have := hc (k * 4 + 1) _ (by rw [Law.flat_get Get.cells 4 Get.cells_len ps k 1 hk (by omega)]; rfl)
    rw [← add_of_add] at this
    exact this
  · have := hc (k * 4 + 2) _ (by rw [Law.flat_get Get.cells 4 Get.cells_len ps k 2 hk (by omega)]; rfl)
    rw [← add_of_add] at this
    exact this
  · have := hc (k * 4 + 3) _ (by rw [Law.flat_get Get.cells 4 Get.cells_len ps k 3 hk (by omega)]; rfl)
    rw [← add_of_add] at this
    exact this
theorem saysV_agg (s : RS) (kd : Int) (x : Nat) (N : Int) : ∃ a t c, saysV s kd x N = .agg #[.int .u64 a, .string t, .int .i64 c] := by
  unfold saysV gotV
  repeat' split
  all_goals exact ⟨_, _, _, rfl⟩
/-- The program's two readers, and the array that holds them. -/
structure PR (w : World) (P B0 B1 : Nat) (ok0 ok1 : Nat → Prop) (s0 s1 : RS) : Prop where
  r0 : ∃ A n c, Rdr w ok0 B0 A n c s0
  r1 : ∃ A n c, Rdr w ok1 B1 A n c s1
  pp : Blk w P 38 #[.pointer (some ⟨B0, 0, none⟩), .pointer (some ⟨B1, 0, none⟩)]
structure Sep (lo hi P B0 B1 : Nat) (ok0 ok1 : Nat → Prop) : Prop where
  b0 : lo ≤ B0 ∧ B0 < hi
  b1 : lo ≤ B1 ∧ B1 < hi
  p : lo ≤ P ∧ P < hi
  ne : B0 ≠ B1 ∧ P ≠ B0 ∧ P ≠ B1
  o0 : ∀ k, ok0 k → lo ≤ k ∧ k < hi ∧ k ≠ B1 ∧ k ≠ P
  o1 : ∀ k, ok1 k → lo ≤ k ∧ k < hi ∧ k ≠ B0 ∧ k ≠ P
theorem PR.keep {w w' : World} {lo hi P B0 B1 : Nat} {ok0 ok1 S : Nat → Prop} {s0 s1 : RS} (h : PR w P B0 B1 ok0 ok1 s0 s1) (hs : Sep lo hi P B0 B1 ok0 ok1) (hk : Keep S w w') (hS : ∀ k, lo ≤ k → k < hi → ¬ S k) : PR w' P B0 B1 ok0 ok1 s0 s1 := by
  obtain ⟨A, n, c, h0⟩ := h.r0
  obtain ⟨A', n', c', h1⟩ := h.r1
  exact ⟨⟨A, n, c, h0.keep hk (hS _ hs.b0.1 hs.b0.2) (fun k hk => hS _ (hs.o0 k hk).1 (hs.o0 k hk).2.1)⟩, ⟨A', n', c', h1.keep hk (hS _ hs.b1.1 hs.b1.2) (fun k hk => hS _ (hs.o1 k hk).1 (hs.o1 k hk).2.1)⟩, h.pp.keep hk (hS _ hs.p.1 hs.p.2)⟩
theorem PR.ask0 {w w' : World} {lo hi P B0 B1 : Nat} {ok0 ok1 : Nat → Prop} {s0 s1 s : RS} (h : PR w P B0 B1 ok0 ok1 s0 s1) (hs : Sep lo hi P B0 B1 ok0 ok1) (hr : ∃ A n c, Rdr w' ok0 B0 A n c s) (hk : Keep (fun k => k = B0) w w') : PR w' P B0 B1 ok0 ok1 s s1 := by
  obtain ⟨A', n', c', h1⟩ := h.r1
  exact ⟨hr, ⟨A', n', c', h1.keep hk (fun e => hs.ne.1 e.symm) (fun k hk e => (hs.o1 k hk).2.2.1 e)⟩, h.pp.keep hk (fun e => hs.ne.2.1 e)⟩
theorem PR.ask1 {w w' : World} {lo hi P B0 B1 : Nat} {ok0 ok1 : Nat → Prop} {s0 s1 s : RS} (h : PR w P B0 B1 ok0 ok1 s0 s1) (hs : Sep lo hi P B0 B1 ok0 ok1) (hr : ∃ A n c, Rdr w' ok1 B1 A n c s) (hk : Keep (fun k => k = B1) w w') : PR w' P B0 B1 ok0 ok1 s0 s := by
  obtain ⟨A', n', c', h0⟩ := h.r0
  exact ⟨⟨A', n', c', h0.keep hk (fun e => hs.ne.1 e) (fun k hk e => (hs.o0 k hk).2.2.1 e)⟩, hr, h.pp.keep hk (fun e => hs.ne.2.2 e)⟩
/-- The document's two readers, in one block. -/
structure RR (w : World) (W : Nat) (okr : Nat → Prop) (A0 A1 : Option Addr) (n0 c0 n1 c1 : Nat) (a b : List Int) (s0 s1 : RS) : Prop where
  ex : ∃ p0 p1 : Nat, Blk w W 41 #[.slice A0 n0 c0, .int .i64 p0, .int .i64 s0.er.code, .slice A1 n1 c1, .int .i64 p1, .int .i64 s1.er.code] ∧ One w okr A0 n0 c0 a p0 s0 ∧ One w okr A1 n1 c1 b p1 s1
theorem RR.keep {w w' : World} {W : Nat} {okr S : Nat → Prop} {A0 A1 : Option Addr} {n0 c0 n1 c1 : Nat} {a b : List Int} {s0 s1 : RS} (h : RR w W okr A0 A1 n0 c0 n1 c1 a b s0 s1) (hk : Keep S w w') (hW : ¬ S W) (ho : ∀ k, okr k → ¬ S k) : RR w' W okr A0 A1 n0 c0 n1 c1 a b s0 s1 := by
  obtain ⟨p0, p1, h1, h2, h3⟩ := h.ex
  exact ⟨p0, p1, h1.keep hk hW, h2.keep hk ho, h3.keep hk ho⟩
set_option maxHeartbeats 4000000 in
set_option maxRecDepth 100000 in
theorem reads_any (A0 A1 As : Option Addr) (n0 c0 n1 c1 ns cs : Nat) (a b : List Int) (gs : List Get) (w : World) (hg : Laid w) (hr0 : RdN w (fun k => k < w.heap.size) .u8 A0 n0 a) (hr1 : RdN w (fun k => k < w.heap.size) .u8 A1 n1 b)
    (hb0 : Byt a) (hb1 : Byt b) (hn0 : n0 ≤ 140737488355300) (hn1 : n1 ≤ 140737488355300) (hc0 : n0 ≤ c0) (hc1 : n1 ≤ c1) (hns : ns = gs.length) (hnb : ns ≤ 140737488355328) (hs : RdGet w (fun k => k < w.heap.size) As gs) (hgs : ∀ p ∈ gs, p.Good) :
    Calls Tryd.prog 4 #[.slice A0 n0 c0, .slice A1 n1 c1, .slice As ns cs] w fun e w' => e = .returned (.bool true) ∧ Below w.heap.size w w' := by
  have HG := Held.mk hg
  have HN0 := Held.mk hn0
  have HN1 := Held.mk hn1
  have HY0 := Held.mk hb0
  have HY1 := Held.mk hb1
  have HRa : Held (∀ W, Below w.heap.size w W → RdN W _ .u8 A0 n0 a) := ⟨fun W hB => RdV.keep hr0 (Keep.of_below hB (fun k => ¬ k < w.heap.size)) (fun k h h' => h' h)⟩
  have HRb : Held (∀ W, Below w.heap.size w W → RdN W _ .u8 A1 n1 b) := ⟨fun W hB => RdV.keep hr1 (Keep.of_below hB (fun k => ¬ k < w.heap.size)) (fun k h h' => h' h)⟩
  have hnI2 : (ns : Int) ≤ 140737488355328 := by omega
  have hnI0 : (n0 : Int) ≤ 140737488355300 := by omega
  have hnI1 : (n1 : Int) ≤ 140737488355300 := by omega
  have HCC := Held.mk (And.intro hc0 hc1)
  have HRs : Held (∀ W, Below w.heap.size w W → RdGet W (fun k => k < w.heap.size) As gs) := ⟨fun W hB => RdV.keep hs (Keep.of_below hB (fun k => ¬ k < w.heap.size)) (fun k h h' => h' h)⟩
  have HGs := Held.mk hgs
  have HNs := Held.mk hns
  clear hg hr0 hr1 hb0 hb1 hn0 hn1 hs hgs hns
  go_enter Tryd.func4, Tryd.ntmps4
  go_wp2_with fail
  refine (works_any w).mono ?_
  rintro e w1 ⟨rfl, hw1⟩
  have HB1 := Held.mk hw1
  clear hw1
  go_wp2_with fail
  refine (Kit.lent_any _ A0 n0 c0 a w1 (HRa.out _ HB1.out) HN0.out).mono ?_
  rintro e w2 ⟨g1, d1, rfl, hl1, hb2⟩
  have HL1 := Held.mk hl1
  have HB12 := Held.mk hb2
  have HG1 : Held (w1.heap.size ≤ g1 ∧ g1 < w2.heap.size) := ⟨⟨hl1.ge, own_lt hl1.own g1 rfl⟩⟩
  have hd1 : n0 ≤ d1 := by have := hl1.cap; omega
  have HB2 := Held.mk (HB1.out.trans (hb2.mono HB1.out.size))
  clear hl1 hb2
  go_wp2_with fail
  refine (Kit.lent_any _ A1 n1 c1 b w2 (HRb.out _ HB2.out) HN1.out).mono ?_
  rintro e w3 ⟨g2, d2, rfl, hl2, hb3⟩
  have HL2 := Held.mk hl2
  have HB23 := Held.mk hb3
  have HG2 : Held (w2.heap.size ≤ g2 ∧ g2 < w3.heap.size) := ⟨⟨hl2.ge, own_lt hl2.own g2 rfl⟩⟩
  have hd2 : n1 ≤ d2 := by have := hl2.cap; omega
  have HL13 := Held.mk (HL1.out.keep (Keep.of_below hb3 (fun _ => False)) (fun h => h))
  clear hl2 hb3
  go_wp2_with fail
  refine (newReader_any _ _ n0 d1 a w3 HL13.out.rd (by have := HN0.out; omega) hd1 HY0.out).mono ?_
  rintro e w4 ⟨B0, ok0, E0, m0, f0, rfl, hB0, hok0, hR0, hb4⟩
  have HR0 := Held.mk hR0
  have HB34 := Held.mk hb4
  have HK0 := Held.mk hok0
  have HBB0 := Held.mk hB0
  have HL24 := Held.mk (HL2.out.keep (Keep.of_below hb4 (fun _ => False)) (fun h => h))
  clear hB0 hok0 hR0 hb4
  go_wp2_with fail
  refine (newReader_any _ _ n1 d2 b w4 HL24.out.rd (by have := HN1.out; omega) hd2 HY1.out).mono ?_
  rintro e w5 ⟨B1, ok1, E1, m1, f1, rfl, hB1, hok1, hR1, hb5⟩
  have HR1 := Held.mk hR1
  have HB45 := Held.mk hb5
  have HK1 := Held.mk hok1
  have HBB1 := Held.mk hB1
  clear hB1 hok1 hR1 hb5
  have HSp : Held (Sep w3.heap.size (w5.heap.size + 1) w5.heap.size B0 B1 (fun k => ok0 k ∧ k < w4.heap.size) (fun k => ok1 k ∧ k < w5.heap.size)) := ⟨by
    have e0 := HR0.out.blk.lt
    have e1 := HR1.out.blk.lt
    have e2 := HBB0.out
    have e3 := HBB1.out
    have e4 := HB34.out.size
    have e5 := HB45.out.size
    refine ⟨by omega, by omega, by omega, by omega, fun k hk => ?_, fun k hk => ?_⟩
    · have := HK0.out k hk.1
      have := hk.2
      omega
    · have := HK1.out k hk.1
      have := hk.2
      omega⟩
  have HPR : Held (PR (w5.alloc (.cells #[.pointer (some ⟨B0, 0, none⟩), .pointer (some ⟨B1, 0, none⟩)] 38)) w5.heap.size B0 B1 (fun k => ok0 k ∧ k < w4.heap.size) (fun k => ok1 k ∧ k < w5.heap.size) ⟨a, .ok⟩ ⟨b, .ok⟩) := ⟨by
    have hk5 := (Keep.of_below HB45.out (fun _ => False)).alloc (.cells #[.pointer (some ⟨B0, 0, none⟩), .pointer (some ⟨B1, 0, none⟩)] 38)
    exact ⟨⟨_, _, _, HR0.out.low.keep hk5 (fun h => h) (fun _ _ h => h)⟩, ⟨_, _, _, HR1.out.low.keep ((Keep.refl (fun _ => False) w5).alloc _) (fun h => h) (fun _ _ h => h)⟩, Blk.new _ _ _⟩⟩
  have HB35 : Held (Below w3.heap.size w3 (w5.alloc (.cells #[.pointer (some ⟨B0, 0, none⟩), .pointer (some ⟨B1, 0, none⟩)] 38))) := ⟨(HB34.out.trans (HB45.out.mono HB34.out.size)).alloc (HB34.out.trans (HB45.out.mono HB34.out.size)).size _⟩
  generalize hoa : (fun k => ok0 k ∧ k < w4.heap.size) = oka at *
  generalize hob : (fun k => ok1 k ∧ k < w5.heap.size) = okb at *
  have HL1a := Held.mk (HL13.out.keep (Keep.of_below HB35.out (fun _ => False)) (fun h => h))
  have HL2a := Held.mk (HL2.out.keep (Keep.of_below HB35.out (fun _ => False)) (fun h => h))
  have HBa : Held (Below w.heap.size w (w5.alloc (.cells #[.pointer (some ⟨B0, 0, none⟩), .pointer (some ⟨B1, 0, none⟩)] 38))) := ⟨(HB2.out.trans (HB23.out.mono HB2.out.size)).trans (HB35.out.mono (HB2.out.trans (HB23.out.mono HB2.out.size)).size)⟩
  have HS3 : Held (w.heap.size ≤ w1.heap.size ∧ w2.heap.size ≤ w3.heap.size ∧ w1.heap.size ≤ w2.heap.size) := ⟨⟨HB1.out.size, HB23.out.size, HB12.out.size⟩⟩
  clear HR0 HR1 HK0 HK1 HBB0 HBB1 HB34 HB45 hoa hob HL13 HL24 HL1 HL2
  go_wp2_with fail
  generalize w5.alloc (.cells #[.pointer (some ⟨B0, 0, none⟩), .pointer (some ⟨B1, 0, none⟩)] 38) = w6 at *
  generalize w5.heap.size = P at *
  refine (Kit.kept_any _ A0 w1.heap.size g1 n0 d1 c0 a w6 HL1a.out (HRa.out _ HBa.out) HN0.out).mono ?_
  rintro e w7 ⟨rfl, q1, rfl⟩
  have HL2b := Held.mk (HL2a.out.keep ((Keep.refl (fun _ => False) w6).drewN q1) (fun h => h))
  go_wp2_with fail
  refine (Kit.kept_any _ A1 w2.heap.size g2 n1 d2 c1 b (w6.drewN q1) HL2b.out (HRb.out _ (below_drwN HBa.out q1)) HN1.out).mono ?_
  rintro e w7 ⟨rfl, q2, rfl⟩
  have hkq := ((Keep.refl (fun _ => False) w6).drewN q1).drewN q2
  have HL1c := Held.mk (HL1a.out.keep hkq (fun h => h))
  have HL2c := Held.mk (HL2a.out.keep hkq (fun h => h))
  have HPRc := Held.mk (HPR.out.keep HSp.out hkq (fun _ _ _ h => h))
  have HBc : Held (Below w.heap.size w ((w6.drewN q1).drewN q2)) := ⟨below_drwN (below_drwN HBa.out q1) q2⟩
  have HSc : Held (w3.heap.size ≤ ((w6.drewN q1).drewN q2).heap.size) := ⟨HB35.out.size⟩
  clear hkq HL2b HL1a HL2a HPR HBa HB35
  generalize (w6.drewN q1).drewN q2 = w7 at *
  go_wp2_with fail
  go_loopw [10] (fun i wr => ∃ (k : Nat) (xs : List Int), i = .int .i64 k ∧ k ≤ n0 ∧ Held (Lent wr w1.heap.size g1 n0 d1 xs) ∧ Held (Keep (fun k => k = g1) w7 wr)) (fun i _ => n0 - (intOf i).toNat)
  case atStart => exact ⟨0, _, rfl, Nat.zero_le _, HL1c, ⟨Keep.refl _ _⟩⟩
  case round =>
    obtain ⟨k, xs, rfl, hk, HLa, HKa⟩ := hrel
    by_cases hlt : k < n0
    · obtain ⟨hce, hfr⟩ := HLa.out.cell hlt
      have HLn := Held.mk (HLa.out.set_ hlt 7)
      have HKn : Held (Keep (fun k => k = g1) w7 (wr.setCell ⟨g1, k, none⟩ (.int .u8 7))) := ⟨HKa.out.setCell (p := ⟨g1, k, none⟩) (fun _ => rfl) _⟩
      generalize xs.getD k 0 = z at *
      go_wp2_with fail
      go_roundw
      case rel => exact ⟨k + 1, _, by go_num, by omega, HLn, HKn⟩
      case measure => simp [intOf]; omega
    · have HL2d := Held.mk (HL2c.out.keep HKa.out (fun e => by have := HG1.out; have := HG2.out; omega))
      have HPRd := Held.mk (HPRc.out.keep HSp.out HKa.out (fun j hj _ e => by have := HG1.out; have := HS3.out; omega))
      have HBd : Held (Below w.heap.size w wr) := ⟨((Keep.of_below HBc.out (fun _ => False)).then HKa.out (fun j hj e => by have := HG1.out; have := HS3.out; omega)).to_below (fun _ _ h => h)⟩
      clear HL1c HL2c HPRc HBc HLa
      go_wp2_with fail
      have HBd' := HBd
      generalize hwr : wr = wd at *
      clear hwr HKa
      go_loopw [11] (fun i wr => ∃ (k : Nat) (xs : List Int), i = .int .i64 k ∧ k ≤ n1 ∧ Held (Lent wr w2.heap.size g2 n1 d2 xs) ∧ Held (Keep (fun k => k = g2) wd wr)) (fun i _ => n1 - (intOf i).toNat)
      case atStart => exact ⟨0, _, rfl, Nat.zero_le _, HL2d, ⟨Keep.refl _ _⟩⟩
      case round =>
        obtain ⟨k2, ys, rfl, hk2, HLa, HKa⟩ := hrel
        by_cases hlt2 : k2 < n1
        · obtain ⟨hce, hfr⟩ := HLa.out.cell hlt2
          have HLn := Held.mk (HLa.out.set_ hlt2 9)
          have HKn : Held (Keep (fun k => k = g2) wd (wr.setCell ⟨g2, k2, none⟩ (.int .u8 9))) := ⟨HKa.out.setCell (p := ⟨g2, k2, none⟩) (fun _ => rfl) _⟩
          generalize ys.getD k2 0 = z at *
          go_wp2_with fail
          go_roundw
          case rel => exact ⟨k2 + 1, _, by go_num, by omega, HLn, HKn⟩
          case measure => simp [intOf]; omega
        · have HPRe := Held.mk (HPRd.out.keep HSp.out HKa.out (fun j hj _ e => by have := HG2.out; have := HS3.out; omega))
          have HBe : Held (Below w.heap.size w wr) := ⟨((Keep.of_below HBd.out (fun _ => False)).then HKa.out (fun j hj e => by have := HG2.out; have := HS3.out; omega)).to_below (fun _ _ h => h)⟩
          clear HL2d HPRd HBd HLa
          have HBf : Held (Below w.heap.size w (wr.alloc (.cells #[.slice A0 n0 c0, .int .i64 0, .int .i64 0, .slice A1 n1 c1, .int .i64 0, .int .i64 0] 41))) := ⟨HBe.out.alloc HBe.out.size _⟩
          have HRR : Held (RR (wr.alloc (.cells #[.slice A0 n0 c0, .int .i64 0, .int .i64 0, .slice A1 n1 c1, .int .i64 0, .int .i64 0] 41)) wr.heap.size (fun k => k < w.heap.size) A0 A1 n0 c0 n1 c1 a b ⟨a, .ok⟩ ⟨b, .ok⟩) := ⟨⟨0, 0, Blk.new _ _ _, ⟨HRa.out _ HBf.out, HCC.out.1, by have := HN0.out; omega, HY0.out, Nat.zero_le _, rfl, trivial⟩, ⟨HRb.out _ HBf.out, HCC.out.2, by have := HN1.out; omega, HY1.out, Nat.zero_le _, rfl, trivial⟩⟩⟩
          have HPRf := Held.mk (HPRe.out.keep HSp.out ((Keep.refl (fun _ => False) wr).alloc (.cells #[.slice A0 n0 c0, .int .i64 0, .int .i64 0, .slice A1 n1 c1, .int .i64 0, .int .i64 0] 41)) (fun _ _ _ h => h))
          have HWb : Held (w.heap.size ≤ wr.heap.size ∧ P < wr.heap.size) := ⟨⟨HBe.out.size, HPRe.out.pp.lt⟩⟩
          clear HPRe HBe HKa HBd' HRa HRb
          go_wp2_with fail
          generalize wr.alloc (.cells #[.slice A0 n0 c0, .int .i64 0, .int .i64 0, .slice A1 n1 c1, .int .i64 0, .int .i64 0] 41) = wf at *
          generalize wr.heap.size = Wb at *
          go_loopw [13] (fun i wl => ∃ (k : Nat) (s0 s1 : RS), i = .int .i64 k ∧ k ≤ ns ∧ Held (PR wl P B0 B1 oka okb s0 s1) ∧ Held (RR wl Wb (fun k => k < w.heap.size) A0 A1 n0 c0 n1 c1 a b s0 s1) ∧ Held (Below w.heap.size w wl)) (fun i _ => ns - (intOf i).toNat)
          case atStart => exact ⟨0, _, _, rfl, Nat.zero_le _, HPRf, HRR, HBf⟩
          case round =>
            obtain ⟨j, s0, s1, rfl, hj, HPl, HRl, HBl⟩ := hrel
            clear HPRf HRR HBf
            by_cases hjl : j < ns
            · have hjg : j < gs.length := by have := HNs.out; omega
              obtain ⟨ad, rfl, had, r0, r1, r2, r3⟩ := (HRs.out _ HBl.out).at_ hjg
              have hgd := HGs.out gs[j] (List.getElem_mem hjg)
              obtain ⟨xx, hxx⟩ : ∃ xx : Nat, gs[j].x = (xx : Int) := ⟨gs[j].x.toNat, by have := hgd.x; omega⟩
              rw [hxx] at r2
              have hgn : I64 gs[j].n := ⟨hgd.n.1, hgd.n.2⟩
              have hgo : I64 gs[j].on := ⟨hgd.on.1, hgd.on.2⟩
              have Had := Held.mk had
              clear hxx hgd had
              generalize gs[j].on = on at *
              generalize gs[j].kind = kd at *
              generalize gs[j].n = N at *
              have HPk := Held.mk (fun W => pick_any on 2 W hgo (by omega) (by omega))
              have hp0 := Int.emod_nonneg on (show (2 : Int) ≠ 0 by omega)
              have hp1 := Int.emod_lt_of_pos on (show (0 : Int) < 2 by omega)
              generalize on % 2 = pk at *
              have HI : Held (I64 N ∧ I64 on) := ⟨⟨hgn, hgo⟩⟩
              clear hgn hgo
              have hpk : pk = 0 ∨ pk = 1 := by omega
              clear hp0 hp1
              rcases hpk with rfl | rfl
              · have hnB : ¬ (ad.add (j * 4)).block = B0 := by
                  have := Had.out; have := HSp.out.b0; have := HS3.out
                  rw [block_of_add]
                  omega
                have hnW : ¬ (ad.add (j * 4)).block = Wb := by
                  have := Had.out; have := HWb.out
                  rw [block_of_add]
                  omega
                have HnB := Held.mk hnB
                have HnW := Held.mk hnW
                have HnP : Held (¬ P = B0 ∧ ¬ P = Wb) := ⟨⟨HSp.out.ne.2.1, by have := HWb.out; omega⟩⟩
                have HAsk : Held (∀ W, Keep (fun _ => False) wr W → Calls Tryd.prog 19 #[.pointer (some ⟨B0, 0, none⟩), .agg #[.int .i64 on, .int .i64 kd, .int .u64 xx, .int .i64 N]] W fun e w' => e = .returned (saysV s0 kd xx N) ∧ (∃ A' n' c', Rdr w' oka B0 A' n' c' (saysS s0 kd xx N)) ∧ Keep (fun k => k = B0) W w') := ⟨fun W hk => by
                  have hp := HPl.out.keep HSp.out hk (fun _ _ _ h => h)
                  obtain ⟨A', n', c', hr⟩ := hp.r0
                  obtain ⟨p0, p1, _, ho, _⟩ := HRl.out.ex
                  have hlt := hp.pp.lt
                  exact ask_any oka B0 A' n' c' s0 on kd xx N W hr (fun k hk => by have := (HSp.out.o0 k hk).2.1; omega) HI.out.1 ho.fit (HG.out.below (HBl.out.trans ((hk.to_below (fun _ _ h => h)).mono HBl.out.size)))⟩
                have HTel : Held (∀ W, Keep (fun k => k = B0) wr W → Calls Tryd.prog 20 #[.pointer (some ⟨Wb, 0, none⟩), .agg #[.int .i64 on, .int .i64 kd, .int .u64 xx, .int .i64 N]] W fun e w' => e = .returned (saysV s0 kd xx N) ∧ RR w' Wb (fun k => k < w.heap.size) A0 A1 n0 c0 n1 c1 a b (saysS s0 kd xx N) s1 ∧ Keep (fun k => k = Wb) W w') := ⟨fun W hk => by
                  obtain ⟨p0, p1, hb, ho, ho1⟩ := (HRl.out.keep hk (by have := HSp.out.b0; have := HWb.out; omega) (fun k hk e => by have := HSp.out.b0; have := HS3.out; omega)).ex
                  refine (tell_0 _ Wb A0 n0 c0 a p0 s0 _ _ _ on kd xx N W hb ho (by have := HWb.out.1; omega) (fun k h => by have := HBl.out.size; have := hk.size; omega) HI.out.1).mono ?_
                  rintro e w' ⟨rfl, ⟨p', hb', ho'⟩, hk'⟩
                  exact ⟨rfl, ⟨p', p1, hb', ho', ho1.keep hk' (fun k hk e => by have := HWb.out.1; omega)⟩, hk'⟩⟩
                obtain ⟨va, vt, vc, hv⟩ := saysV_agg s0 kd xx N
                rw [hv] at HAsk HTel
                clear hv
                generalize saysS s0 kd xx N = s2 at *
                have hpc := HPl.out.pp.cell 0
                simp at hpc
                go_wp2_with fail
                refine (HPk.out _).mono ?_
                rintro e wp ⟨rfl, rfl⟩
                go_wp2_with fail
                go_region_held3 (fun w' => w'.cell? (ad.add (j * 4)) = some (.int .i64 on) ∧ w'.cell? ⟨(ad.add (j * 4)).block, (ad.add (j * 4)).off + 1, none⟩ = some (.int .i64 kd) ∧ w'.cell? ⟨(ad.add (j * 4)).block, (ad.add (j * 4)).off + 2, none⟩ = some (.int .u64 xx) ∧ w'.cell? ⟨(ad.add (j * 4)).block, (ad.add (j * 4)).off + 3, none⟩ = some (.int .i64 N) ∧ w'.cell? ⟨P, 0, none⟩ = some (.pointer (some ⟨B0, 0, none⟩))) (go_keep)
                  (first
                    | (go_at_call 19; refine (HAsk.out _ (by first | exact Keep.refl _ _ | exact (Keep.refl _ _).drew)).mono ?_; rintro e w8 ⟨rfl, hr8, hk8⟩; have hkA : Keep (fun k => k = B0) wr w8 := (by first | exact hk8 | exact ((Keep.refl _ wr).drew).then hk8 (fun _ _ h => h)); have d0 := hkA.cell (a := ad.add (j * 4)) (by exact r0) hnB; have d1 := hkA.cell (a := ⟨(ad.add (j * 4)).block, (ad.add (j * 4)).off + 1, none⟩) (by exact r1) hnB; have d2 := hkA.cell (a := ⟨(ad.add (j * 4)).block, (ad.add (j * 4)).off + 2, none⟩) (by exact r2) hnB; have d3 := hkA.cell (a := ⟨(ad.add (j * 4)).block, (ad.add (j * 4)).off + 3, none⟩) (by exact r3) hnB; have dp := hkA.cell (a := ⟨P, 0, none⟩) (by exact hpc) HnP.out.1)
                    | (go_at_call 20; refine (HTel.out _ (by first | exact hkA | exact hkA.drew)).mono ?_; rintro e w9 ⟨rfl, hr9, hk9⟩; have hkB : Keep (fun k => k = Wb) w8 w9 := (by first | exact hk9 | exact ((Keep.refl _ w8).drew).then hk9 (fun _ _ h => h)); have e0 := hkB.cell (a := ad.add (j * 4)) (by exact d0) hnW; have e1 := hkB.cell (a := ⟨(ad.add (j * 4)).block, (ad.add (j * 4)).off + 1, none⟩) (by exact d1) hnW; have e2 := hkB.cell (a := ⟨(ad.add (j * 4)).block, (ad.add (j * 4)).off + 2, none⟩) (by exact d2) hnW; have e3 := hkB.cell (a := ⟨(ad.add (j * 4)).block, (ad.add (j * 4)).off + 3, none⟩) (by exact d3) hnW; have ep := hkB.cell (a := ⟨P, 0, none⟩) (by exact dp) HnP.out.2))
                have HPn : Held (PR w9 P B0 B1 oka okb s2 s1) := ⟨(HPl.out.ask0 HSp.out hr8 hkA).keep HSp.out hkB (fun i _ hi e => by have := HWb.out; omega)⟩
                have HRn := Held.mk hr9
                have HBn : Held (Below w.heap.size w w9) := ⟨((Keep.of_below HBl.out (fun _ => False)).then ((hkA.mono (T := fun k => k = B0 ∨ k = Wb) (fun _ _ h => .inl h)).then hkB (fun _ _ h => .inr h)) (fun i hi h => by have := HSp.out.b0; have := HS3.out; have := HWb.out; omega)).to_below (fun _ _ h => h)⟩
                go_wp2_with fail
                go_roundw
                case rel => exact ⟨j + 1, _, _, by go_num, by omega, HPn, HRn, HBn⟩
                case measure => simp [intOf]; omega
              · have hnB : ¬ (ad.add (j * 4)).block = B1 := by
                  have := Had.out; have := HSp.out.b1; have := HS3.out
                  rw [block_of_add]
                  omega
                have hnW : ¬ (ad.add (j * 4)).block = Wb := by
                  have := Had.out; have := HWb.out
                  rw [block_of_add]
                  omega
                have HnB := Held.mk hnB
                have HnW := Held.mk hnW
                have HnP : Held (¬ P = B1 ∧ ¬ P = Wb) := ⟨⟨HSp.out.ne.2.2, by have := HWb.out; omega⟩⟩
                have HAsk : Held (∀ W, Keep (fun _ => False) wr W → Calls Tryd.prog 19 #[.pointer (some ⟨B1, 0, none⟩), .agg #[.int .i64 on, .int .i64 kd, .int .u64 xx, .int .i64 N]] W fun e w' => e = .returned (saysV s1 kd xx N) ∧ (∃ A' n' c', Rdr w' okb B1 A' n' c' (saysS s1 kd xx N)) ∧ Keep (fun k => k = B1) W w') := ⟨fun W hk => by
                  have hp := HPl.out.keep HSp.out hk (fun _ _ _ h => h)
                  obtain ⟨A', n', c', hr⟩ := hp.r1
                  obtain ⟨p0, p1, _, _, ho⟩ := HRl.out.ex
                  have hlt := hp.pp.lt
                  exact ask_any okb B1 A' n' c' s1 on kd xx N W hr (fun k hk => by have := (HSp.out.o1 k hk).2.1; omega) HI.out.1 ho.fit (HG.out.below (HBl.out.trans ((hk.to_below (fun _ _ h => h)).mono HBl.out.size)))⟩
                have HTel : Held (∀ W, Keep (fun k => k = B1) wr W → Calls Tryd.prog 20 #[.pointer (some ⟨Wb, 3, none⟩), .agg #[.int .i64 on, .int .i64 kd, .int .u64 xx, .int .i64 N]] W fun e w' => e = .returned (saysV s1 kd xx N) ∧ RR w' Wb (fun k => k < w.heap.size) A0 A1 n0 c0 n1 c1 a b s0 (saysS s1 kd xx N) ∧ Keep (fun k => k = Wb) W w') := ⟨fun W hk => by
                  obtain ⟨p0, p1, hb, ho1, ho⟩ := (HRl.out.keep hk (by have := HSp.out.b1; have := HWb.out; omega) (fun k hk e => by have := HSp.out.b1; have := HS3.out; omega)).ex
                  refine (tell_3 _ Wb A1 n1 c1 b p1 s1 _ _ _ on kd xx N W hb ho (by have := HWb.out.1; omega) (fun k h => by have := HBl.out.size; have := hk.size; omega) HI.out.1).mono ?_
                  rintro e w' ⟨rfl, ⟨p', hb', ho'⟩, hk'⟩
                  exact ⟨rfl, ⟨p0, p', hb', ho1.keep hk' (fun k hk e => by have := HWb.out.1; omega), ho'⟩, hk'⟩⟩
                obtain ⟨va, vt, vc, hv⟩ := saysV_agg s1 kd xx N
                rw [hv] at HAsk HTel
                clear hv
                generalize saysS s1 kd xx N = s2 at *
                have hpc := HPl.out.pp.cell 1
                simp at hpc
                go_wp2_with fail
                refine (HPk.out _).mono ?_
                rintro e wp ⟨rfl, rfl⟩
                go_wp2_with fail
                go_region_held3 (fun w' => w'.cell? (ad.add (j * 4)) = some (.int .i64 on) ∧ w'.cell? ⟨(ad.add (j * 4)).block, (ad.add (j * 4)).off + 1, none⟩ = some (.int .i64 kd) ∧ w'.cell? ⟨(ad.add (j * 4)).block, (ad.add (j * 4)).off + 2, none⟩ = some (.int .u64 xx) ∧ w'.cell? ⟨(ad.add (j * 4)).block, (ad.add (j * 4)).off + 3, none⟩ = some (.int .i64 N) ∧ w'.cell? ⟨P, 1, none⟩ = some (.pointer (some ⟨B1, 0, none⟩))) (go_keep)
                  (first
                    | (go_at_call 19; refine (HAsk.out _ (by first | exact Keep.refl _ _ | exact (Keep.refl _ _).drew)).mono ?_; rintro e w8 ⟨rfl, hr8, hk8⟩; have hkA : Keep (fun k => k = B1) wr w8 := (by first | exact hk8 | exact ((Keep.refl _ wr).drew).then hk8 (fun _ _ h => h)); have d0 := hkA.cell (a := ad.add (j * 4)) (by exact r0) hnB; have d1 := hkA.cell (a := ⟨(ad.add (j * 4)).block, (ad.add (j * 4)).off + 1, none⟩) (by exact r1) hnB; have d2 := hkA.cell (a := ⟨(ad.add (j * 4)).block, (ad.add (j * 4)).off + 2, none⟩) (by exact r2) hnB; have d3 := hkA.cell (a := ⟨(ad.add (j * 4)).block, (ad.add (j * 4)).off + 3, none⟩) (by exact r3) hnB; have dp := hkA.cell (a := ⟨P, 1, none⟩) (by exact hpc) HnP.out.1)
                    | (go_at_call 20; refine (HTel.out _ (by first | exact hkA | exact hkA.drew)).mono ?_; rintro e w9 ⟨rfl, hr9, hk9⟩; have hkB : Keep (fun k => k = Wb) w8 w9 := (by first | exact hk9 | exact ((Keep.refl _ w8).drew).then hk9 (fun _ _ h => h)); have e0 := hkB.cell (a := ad.add (j * 4)) (by exact d0) hnW; have e1 := hkB.cell (a := ⟨(ad.add (j * 4)).block, (ad.add (j * 4)).off + 1, none⟩) (by exact d1) hnW; have e2 := hkB.cell (a := ⟨(ad.add (j * 4)).block, (ad.add (j * 4)).off + 2, none⟩) (by exact d2) hnW; have e3 := hkB.cell (a := ⟨(ad.add (j * 4)).block, (ad.add (j * 4)).off + 3, none⟩) (by exact d3) hnW; have ep := hkB.cell (a := ⟨P, 1, none⟩) (by exact dp) HnP.out.2))
                have HPn : Held (PR w9 P B0 B1 oka okb s0 s2) := ⟨(HPl.out.ask1 HSp.out hr8 hkA).keep HSp.out hkB (fun i _ hi e => by have := HWb.out; omega)⟩
                have HRn := Held.mk hr9
                have HBn : Held (Below w.heap.size w w9) := ⟨((Keep.of_below HBl.out (fun _ => False)).then ((hkA.mono (T := fun k => k = B1 ∨ k = Wb) (fun _ _ h => .inl h)).then hkB (fun _ _ h => .inr h)) (fun i hi h => by have := HSp.out.b1; have := HS3.out; have := HWb.out; omega)).to_below (fun _ _ h => h)⟩
                go_wp2_with fail
                go_roundw
                case rel => exact ⟨j + 1, _, _, by go_num, by omega, HPn, HRn, HBn⟩
                case measure => simp [intOf]; omega
            · clear HRs HGs
              go_wp2_with fail
              go_loopw [15] (fun i wl => ∃ z : Int, i = .int .i64 z ∧ (z = 0 ∨ z = 1 ∨ z = 2) ∧ Held (PR wl P B0 B1 oka okb s0 s1) ∧ Held (RR wl Wb (fun k => k < w.heap.size) A0 A1 n0 c0 n1 c1 a b s0 s1) ∧ Held (Below w.heap.size w wl)) (fun i _ => 2 - (intOf i).toNat)
              case atStart => exact ⟨0, rfl, .inl rfl, HPl, HRl, HBl⟩
              case round =>
                obtain ⟨z, rfl, hz, HPm, HRm, HBm⟩ := hrel
                clear HPl HRl HBl
                rcases hz with rfl | rfl | rfl
                · have hpc := HPm.out.pp.cell 0
                  simp at hpc
                  obtain ⟨p0, p1, hbb, ho0, ho1⟩ := HRm.out.ex
                  have hwc := hbb.cell 2
                  simp at hwc
                  have HF : Held (s0.er.fit) := ⟨ho0.fit⟩
                  clear hbb ho0 ho1
                  have HLf : Held (∀ W, Keep (fun _ => False) wr W → Calls Tryd.prog 21 #[.pointer (some ⟨B0, 0, none⟩)] W fun e w' => e = .returned (.int .i64 s0.xs.length) ∧ Keep (fun _ => False) W w') := ⟨fun W hk => by
                    obtain ⟨A', n', c', hr⟩ := (HPm.out.keep HSp.out hk (fun _ _ _ h => h)).r0
                    refine (left_any _ _ _ _ _ _ W hr).mono ?_
                    rintro e w' ⟨rfl, rfl⟩
                    exact ⟨rfl, Keep.refl _ _⟩⟩
                  have HEr : Held (∀ W, Keep (fun _ => False) wr W → Calls Tryd.prog 24 #[.pointer (some ⟨B0, 0, none⟩)] W fun e w' => e = .returned s0.er.enc ∧ Keep (fun _ => False) W w') := ⟨fun W hk => by
                    obtain ⟨A', n', c', hr⟩ := (HPm.out.keep HSp.out hk (fun _ _ _ h => h)).r0
                    refine (err_any _ _ _ _ _ _ W hr).mono ?_
                    rintro e w' ⟨rfl, rfl⟩
                    exact ⟨rfl, Keep.refl _ _⟩⟩
                  have HEn : Held (∀ W, Keep (fun _ => False) wr W → Calls Tryd.prog 25 #[.pointer (some ⟨B0, 0, none⟩)] W fun e w' => e = .returned (endM s0).enc ∧ Keep (fun _ => False) W w') := ⟨fun W hk => by
                    obtain ⟨A', n', c', hr⟩ := (HPm.out.keep HSp.out hk (fun _ _ _ h => h)).r0
                    refine (end_any _ _ _ _ _ _ W hr).mono ?_
                    rintro e w' ⟨rfl, rfl⟩
                    exact ⟨rfl, Keep.refl _ _⟩⟩
                  have HRf : Held (∀ W, Keep (fun _ => False) wr W → Calls Tryd.prog 22 #[.pointer (some ⟨Wb, 0, none⟩)] W fun e w' => e = .returned (.int .i64 s0.xs.length) ∧ Keep (fun _ => False) W w') := ⟨fun W hk => by
                    obtain ⟨p0, p1, hbb, ho0, ho1⟩ := (HRm.out.keep hk (fun h => h) (fun _ _ h => h)).ex
                    refine (rleftR_0 _ Wb A0 n0 c0 a p0 s0 _ _ _ W hbb ho0).mono ?_
                    rintro e w' ⟨rfl, m, rfl⟩
                    exact ⟨rfl, (Keep.refl _ _).drewN m⟩⟩
                  have HRe : Held (∀ W, Keep (fun _ => False) wr W → Calls Tryd.prog 26 #[.pointer (some ⟨Wb, 0, none⟩)] W fun e w' => e = .returned (.int .i64 (endM s0).code) ∧ Keep (fun _ => False) W w') := ⟨fun W hk => by
                    obtain ⟨p0, p1, hbb, ho0, ho1⟩ := (HRm.out.keep hk (fun h => h) (fun _ _ h => h)).ex
                    refine (rendR_0 _ Wb A0 n0 c0 a p0 s0 _ _ _ W hbb ho0).mono ?_
                    rintro e w' ⟨rfl, m, rfl⟩
                    exact ⟨rfl, (Keep.refl _ _).drewN m⟩⟩
                  have HN : Held (∀ (W : World) (v : Value) (N : Int), ((v = s0.er.enc ∧ N = s0.er.code) ∨ (v = (endM s0).enc ∧ N = (endM s0).code)) → Keep (fun _ => False) wr W → Calls Tryd.prog 23 #[v] W fun e w' => e = .returned (.int .i64 N) ∧ Keep (fun _ => False) W w') := ⟨fun W v N hv hk => by
                    rcases hv with ⟨rfl, rfl⟩ | ⟨rfl, rfl⟩
                    · refine (number_fit s0.er HF.out W (HG.out.below (HBm.out.trans ((hk.to_below (fun _ _ h => h)).mono HBm.out.size)))).mono ?_
                      rintro e w' ⟨rfl, hb⟩
                      exact ⟨rfl, Keep.of_below hb _⟩
                    · refine (number_fit (endM s0) (endM_fit s0 HF.out) W (HG.out.below (HBm.out.trans ((hk.to_below (fun _ _ h => h)).mono HBm.out.size)))).mono ?_
                      rintro e w' ⟨rfl, hb⟩
                      exact ⟨rfl, Keep.of_below hb _⟩⟩
                  clear HF
                  generalize s0.er.enc = ev1 at *
                  generalize s0.er.code = ec1 at *
                  generalize (endM s0).enc = ev2 at *
                  generalize (endM s0).code = ec2 at *
                  generalize (s0.xs.length : Int) = xl at *
                  have hb : Keep (fun _ => False) wr wr := Keep.refl _ _
                  go_wp2_with fail
                  go_region_held3 (fun w' => w'.cell? ⟨P, 0, none⟩ = some (.pointer (some ⟨B0, 0, none⟩)) ∧ w'.cell? ⟨Wb, 2, none⟩ = some (.int .i64 ec1)) (go_keep)
                    (first
                      | (go_at_call 21; refine (HLf.out _ (by first | exact hb | exact hb.drew)).mono ?_; rintro e w8 ⟨rfl, hk8⟩; have hb : Keep (fun _ => False) wr w8 := (by first | exact hb.trans hk8 | exact hb.drew.trans hk8); have dp := hb.cell (a := ⟨P, 0, none⟩) (by exact hpc) (fun h => h); have dw := hb.cell (a := ⟨Wb, 2, none⟩) (by exact hwc) (fun h => h))
                      | (go_at_call 22; refine (HRf.out _ (by first | exact hb | exact hb.drew)).mono ?_; rintro e w8 ⟨rfl, hk8⟩; have hb : Keep (fun _ => False) wr w8 := (by first | exact hb.trans hk8 | exact hb.drew.trans hk8); have dp := hb.cell (a := ⟨P, 0, none⟩) (by exact hpc) (fun h => h); have dw := hb.cell (a := ⟨Wb, 2, none⟩) (by exact hwc) (fun h => h))
                      | (go_at_call 24; refine (HEr.out _ (by first | exact hb | exact hb.drew)).mono ?_; rintro e w8 ⟨rfl, hk8⟩; have hb : Keep (fun _ => False) wr w8 := (by first | exact hb.trans hk8 | exact hb.drew.trans hk8); have dp := hb.cell (a := ⟨P, 0, none⟩) (by exact hpc) (fun h => h); have dw := hb.cell (a := ⟨Wb, 2, none⟩) (by exact hwc) (fun h => h))
                      | (go_at_call 25; refine (HEn.out _ (by first | exact hb | exact hb.drew)).mono ?_; rintro e w8 ⟨rfl, hk8⟩; have hb : Keep (fun _ => False) wr w8 := (by first | exact hb.trans hk8 | exact hb.drew.trans hk8); have dp := hb.cell (a := ⟨P, 0, none⟩) (by exact hpc) (fun h => h); have dw := hb.cell (a := ⟨Wb, 2, none⟩) (by exact hwc) (fun h => h))
                      | (go_at_call 26; refine (HRe.out _ (by first | exact hb | exact hb.drew)).mono ?_; rintro e w8 ⟨rfl, hk8⟩; have hb : Keep (fun _ => False) wr w8 := (by first | exact hb.trans hk8 | exact hb.drew.trans hk8); have dp := hb.cell (a := ⟨P, 0, none⟩) (by exact hpc) (fun h => h); have dw := hb.cell (a := ⟨Wb, 2, none⟩) (by exact hwc) (fun h => h))
                      | (go_at_call 23; refine (HN.out _ _ _ (by first | exact .inl ⟨rfl, rfl⟩ | exact .inr ⟨rfl, rfl⟩) (by first | exact hb | exact hb.drew)).mono ?_; rintro e w8 ⟨rfl, hk8⟩; have hb : Keep (fun _ => False) wr w8 := (by first | exact hb.trans hk8 | exact hb.drew.trans hk8); have dp := hb.cell (a := ⟨P, 0, none⟩) (by exact hpc) (fun h => h); have dw := hb.cell (a := ⟨Wb, 2, none⟩) (by exact hwc) (fun h => h)))
                  have HPn := Held.mk (HPm.out.keep HSp.out hb (fun _ _ _ h => h))
                  have HRn := Held.mk (HRm.out.keep hb (fun h => h) (fun _ _ h => h))
                  have HBn : Held (Below w.heap.size w w8) := ⟨HBm.out.trans ((hb.to_below (fun _ _ h => h)).mono HBm.out.size)⟩
                  go_wp2_with fail
                  go_roundw
                  case rel => exact ⟨1, by go_num, by omega, HPn, HRn, HBn⟩
                  case measure => simp [intOf]
                · have hpc := HPm.out.pp.cell 1
                  simp at hpc
                  obtain ⟨p0, p1, hbb, ho0, ho1⟩ := HRm.out.ex
                  have hwc := hbb.cell 5
                  simp at hwc
                  have HF : Held (s1.er.fit) := ⟨ho1.fit⟩
                  clear hbb ho0 ho1
                  have HLf : Held (∀ W, Keep (fun _ => False) wr W → Calls Tryd.prog 21 #[.pointer (some ⟨B1, 0, none⟩)] W fun e w' => e = .returned (.int .i64 s1.xs.length) ∧ Keep (fun _ => False) W w') := ⟨fun W hk => by
                    obtain ⟨A', n', c', hr⟩ := (HPm.out.keep HSp.out hk (fun _ _ _ h => h)).r1
                    refine (left_any _ _ _ _ _ _ W hr).mono ?_
                    rintro e w' ⟨rfl, rfl⟩
                    exact ⟨rfl, Keep.refl _ _⟩⟩
                  have HEr : Held (∀ W, Keep (fun _ => False) wr W → Calls Tryd.prog 24 #[.pointer (some ⟨B1, 0, none⟩)] W fun e w' => e = .returned s1.er.enc ∧ Keep (fun _ => False) W w') := ⟨fun W hk => by
                    obtain ⟨A', n', c', hr⟩ := (HPm.out.keep HSp.out hk (fun _ _ _ h => h)).r1
                    refine (err_any _ _ _ _ _ _ W hr).mono ?_
                    rintro e w' ⟨rfl, rfl⟩
                    exact ⟨rfl, Keep.refl _ _⟩⟩
                  have HEn : Held (∀ W, Keep (fun _ => False) wr W → Calls Tryd.prog 25 #[.pointer (some ⟨B1, 0, none⟩)] W fun e w' => e = .returned (endM s1).enc ∧ Keep (fun _ => False) W w') := ⟨fun W hk => by
                    obtain ⟨A', n', c', hr⟩ := (HPm.out.keep HSp.out hk (fun _ _ _ h => h)).r1
                    refine (end_any _ _ _ _ _ _ W hr).mono ?_
                    rintro e w' ⟨rfl, rfl⟩
                    exact ⟨rfl, Keep.refl _ _⟩⟩
                  have HRf : Held (∀ W, Keep (fun _ => False) wr W → Calls Tryd.prog 22 #[.pointer (some ⟨Wb, 3, none⟩)] W fun e w' => e = .returned (.int .i64 s1.xs.length) ∧ Keep (fun _ => False) W w') := ⟨fun W hk => by
                    obtain ⟨p0, p1, hbb, ho0, ho1⟩ := (HRm.out.keep hk (fun h => h) (fun _ _ h => h)).ex
                    refine (rleftR_3 _ Wb A1 n1 c1 b p1 s1 _ _ _ W hbb ho1).mono ?_
                    rintro e w' ⟨rfl, m, rfl⟩
                    exact ⟨rfl, (Keep.refl _ _).drewN m⟩⟩
                  have HRe : Held (∀ W, Keep (fun _ => False) wr W → Calls Tryd.prog 26 #[.pointer (some ⟨Wb, 3, none⟩)] W fun e w' => e = .returned (.int .i64 (endM s1).code) ∧ Keep (fun _ => False) W w') := ⟨fun W hk => by
                    obtain ⟨p0, p1, hbb, ho0, ho1⟩ := (HRm.out.keep hk (fun h => h) (fun _ _ h => h)).ex
                    refine (rendR_3 _ Wb A1 n1 c1 b p1 s1 _ _ _ W hbb ho1).mono ?_
                    rintro e w' ⟨rfl, m, rfl⟩
                    exact ⟨rfl, (Keep.refl _ _).drewN m⟩⟩
                  have HN : Held (∀ (W : World) (v : Value) (N : Int), ((v = s1.er.enc ∧ N = s1.er.code) ∨ (v = (endM s1).enc ∧ N = (endM s1).code)) → Keep (fun _ => False) wr W → Calls Tryd.prog 23 #[v] W fun e w' => e = .returned (.int .i64 N) ∧ Keep (fun _ => False) W w') := ⟨fun W v N hv hk => by
                    rcases hv with ⟨rfl, rfl⟩ | ⟨rfl, rfl⟩
                    · refine (number_fit s1.er HF.out W (HG.out.below (HBm.out.trans ((hk.to_below (fun _ _ h => h)).mono HBm.out.size)))).mono ?_
                      rintro e w' ⟨rfl, hb⟩
                      exact ⟨rfl, Keep.of_below hb _⟩
                    · refine (number_fit (endM s1) (endM_fit s1 HF.out) W (HG.out.below (HBm.out.trans ((hk.to_below (fun _ _ h => h)).mono HBm.out.size)))).mono ?_
                      rintro e w' ⟨rfl, hb⟩
                      exact ⟨rfl, Keep.of_below hb _⟩⟩
                  clear HF
                  generalize s1.er.enc = ev1 at *
                  generalize s1.er.code = ec1 at *
                  generalize (endM s1).enc = ev2 at *
                  generalize (endM s1).code = ec2 at *
                  generalize (s1.xs.length : Int) = xl at *
                  have hb : Keep (fun _ => False) wr wr := Keep.refl _ _
                  go_wp2_with fail
                  go_region_held3 (fun w' => w'.cell? ⟨P, 1, none⟩ = some (.pointer (some ⟨B1, 0, none⟩)) ∧ w'.cell? ⟨Wb, 5, none⟩ = some (.int .i64 ec1)) (go_keep)
                    (first
                      | (go_at_call 21; refine (HLf.out _ (by first | exact hb | exact hb.drew)).mono ?_; rintro e w8 ⟨rfl, hk8⟩; have hb : Keep (fun _ => False) wr w8 := (by first | exact hb.trans hk8 | exact hb.drew.trans hk8); have dp := hb.cell (a := ⟨P, 1, none⟩) (by exact hpc) (fun h => h); have dw := hb.cell (a := ⟨Wb, 5, none⟩) (by exact hwc) (fun h => h))
                      | (go_at_call 22; refine (HRf.out _ (by first | exact hb | exact hb.drew)).mono ?_; rintro e w8 ⟨rfl, hk8⟩; have hb : Keep (fun _ => False) wr w8 := (by first | exact hb.trans hk8 | exact hb.drew.trans hk8); have dp := hb.cell (a := ⟨P, 1, none⟩) (by exact hpc) (fun h => h); have dw := hb.cell (a := ⟨Wb, 5, none⟩) (by exact hwc) (fun h => h))
                      | (go_at_call 24; refine (HEr.out _ (by first | exact hb | exact hb.drew)).mono ?_; rintro e w8 ⟨rfl, hk8⟩; have hb : Keep (fun _ => False) wr w8 := (by first | exact hb.trans hk8 | exact hb.drew.trans hk8); have dp := hb.cell (a := ⟨P, 1, none⟩) (by exact hpc) (fun h => h); have dw := hb.cell (a := ⟨Wb, 5, none⟩) (by exact hwc) (fun h => h))
                      | (go_at_call 25; refine (HEn.out _ (by first | exact hb | exact hb.drew)).mono ?_; rintro e w8 ⟨rfl, hk8⟩; have hb : Keep (fun _ => False) wr w8 := (by first | exact hb.trans hk8 | exact hb.drew.trans hk8); have dp := hb.cell (a := ⟨P, 1, none⟩) (by exact hpc) (fun h => h); have dw := hb.cell (a := ⟨Wb, 5, none⟩) (by exact hwc) (fun h => h))
                      | (go_at_call 26; refine (HRe.out _ (by first | exact hb | exact hb.drew)).mono ?_; rintro e w8 ⟨rfl, hk8⟩; have hb : Keep (fun _ => False) wr w8 := (by first | exact hb.trans hk8 | exact hb.drew.trans hk8); have dp := hb.cell (a := ⟨P, 1, none⟩) (by exact hpc) (fun h => h); have dw := hb.cell (a := ⟨Wb, 5, none⟩) (by exact hwc) (fun h => h))
                      | (go_at_call 23; refine (HN.out _ _ _ (by first | exact .inl ⟨rfl, rfl⟩ | exact .inr ⟨rfl, rfl⟩) (by first | exact hb | exact hb.drew)).mono ?_; rintro e w8 ⟨rfl, hk8⟩; have hb : Keep (fun _ => False) wr w8 := (by first | exact hb.trans hk8 | exact hb.drew.trans hk8); have dp := hb.cell (a := ⟨P, 1, none⟩) (by exact hpc) (fun h => h); have dw := hb.cell (a := ⟨Wb, 5, none⟩) (by exact hwc) (fun h => h)))
                  have HPn := Held.mk (HPm.out.keep HSp.out hb (fun _ _ _ h => h))
                  have HRn := Held.mk (HRm.out.keep hb (fun h => h) (fun _ _ h => h))
                  have HBn : Held (Below w.heap.size w w8) := ⟨HBm.out.trans ((hb.to_below (fun _ _ h => h)).mono HBm.out.size)⟩
                  go_wp2_with fail
                  go_roundw
                  case rel => exact ⟨2, by go_num, by omega, HPn, HRn, HBn⟩
                  case measure => simp [intOf]
                · go_wp2_with fail
                  go_ret
                  exact ⟨rfl, HBm.out⟩
end Wire
end Go.Proofs.YthkhemcbkcoliaaDoor
