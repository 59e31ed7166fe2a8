/- WireSum: the program's sum of any bytes is the document's, asked twice; the bytes stay as they were; asked again of other bytes in the same list: for every two lists of bytes; no condition. -/
import Derived.Test.YthkhemcbkcoliaaRefSum
import Derived.Test.YthkhemcbkcoliaaKept
import Derived.Test.YthkhemcbkcoliaaWorks
import Derived.Test.YthkhemcbkcoliaaOpen
import Derived.Test.YthkhemcbkcoliaaRow
import Derived.Test.YthkhemcbkcoliaaRows
namespace Go.Proofs.Ythkhemcbkcoliaa
set_option linter.unusedVariables false
namespace Wire
open Go.RowKit Mem Kit

theorem byt_set {l : List Int} (h : Byt l) (k : Nat) {y : Int} (hy : 0 ≤ y ∧ y ≤ 255) : Byt (l.set k y) := fun c hc => by
  rcases List.mem_or_eq_of_mem_set hc with hc | rfl
  · exact h c hc
  · exact hy
set_option maxHeartbeats 2000000 in
set_option maxRecDepth 100000 in
theorem wsum_any (A A2 : Option Addr) (n c m c2 : Nat) (xs ys : List Int) (w : World) (hr : RdN w (fun k => k < w.heap.size) .u8 A n xs) (hr2 : RdN w (fun k => k < w.heap.size) .u8 A2 m ys)
    (hl : n ≤ 140737488351232) (hl2 : m ≤ 140737488351232) (hb : Byt xs) (hb2 : Byt ys) :
    Calls Try.prog 4 #[.slice A n c, .slice A2 m c2] w fun e w' => e = .returned (.bool true) ∧ Below w.heap.size w w' := by
  have Hr := Held.mk hr
  have Hr2 := Held.mk hr2
  have Hb := Held.mk hb
  have Hb2 := Held.mk hb2
  clear hr hr2 hb hb2
  go_enter Try.func4, Try.ntmps4
  go_wp2_with fail
  refine (lent_any _ A n c xs w Hr.out (by omega)).mono ?_
  rintro e w1 ⟨g, c1, rfl, hL, hb1⟩
  have HL := Held.mk hL
  have HB1 := Held.mk hb1
  clear hL hb1
  go_wp2_with fail
  refine (sum_any _ _ n c1 xs w1 HL.out.rd (by omega) Hb.out).mono ?_
  rintro e w2 ⟨rfl, hb2⟩
  have HB2 : Held (Below w.heap.size w w2) := ⟨HB1.out.trans (hb2.mono HB1.out.size)⟩
  have HL2 := Held.mk (HL.out.keep (Keep.of_below hb2 (fun k => w1.heap.size ≤ k)) (fun h => by have := own_lt HL.out.own g rfl; omega))
  clear hb2 HB1 HL
  go_wp2_with fail
  have hfar : ∀ {wx : World}, Below w.heap.size w wx → RdN wx (fun k => k < w.heap.size) .u8 A n xs := fun h => Hr.out.keep (Keep.of_below h (fun k => ¬ k < w.heap.size)) (fun k hk => by simpa using hk)
  have Hfar := Held.mk (fun wx => @hfar wx)
  clear hfar
  refine (refSum_any _ A n c xs w2 (Hfar.out _ HB2.out) (by omega) Hb.out).mono ?_
  rintro e w3 ⟨rfl, rfl⟩
  have hne : (((crc xs : Nat) : Int) != (crc xs : Nat)) = false := by simp
  go_wp2_with fail
  refine (sum_any _ _ n c1 xs w2 HL2.out.rd (by omega) Hb.out).mono ?_
  rintro e w3 ⟨rfl, hb3⟩
  have HB3 : Held (Below w.heap.size w w3) := ⟨HB2.out.trans (hb3.mono HB2.out.size)⟩
  have HL3 := Held.mk (HL2.out.keep (Keep.of_below hb3 (fun k => w2.heap.size ≤ k)) (fun h => by have := own_lt HL2.out.own g rfl; omega))
  clear hb3 HB2 HL2
  go_wp2_with fail
  refine (refSum_any _ A n c xs w3 (Hfar.out _ HB3.out) (by omega) Hb.out).mono ?_
  rintro e w4 ⟨rfl, rfl⟩
  go_wp2_with fail
  refine (kept_any _ A _ g n c1 c xs w3 HL3.out (Hfar.out _ HB3.out) (by omega)).mono ?_
  rintro e w4 ⟨rfl, d, rfl⟩
  have HB4 := Held.mk (below_drewN HB3.out d)
  have HL4 := Held.mk (HL3.out.keep ((Keep.refl (fun _ => False) w3).drewN d) (fun h => h))
  clear HB3 HL3
  generalize w3.drewN d = w4 at *
  go_wp2_with fail
  refine (works_any _).mono ?_
  rintro e w5 ⟨rfl, hb5⟩
  have HB5 : Held (Below w.heap.size w w5) := ⟨HB4.out.trans (hb5.mono HB4.out.size)⟩
  have HL5 := Held.mk (HL4.out.keep (Keep.of_below hb5 (fun k => w4.heap.size ≤ k)) (fun h => by have := own_lt HL4.out.own g rfl; omega))
  clear hb5 HB4 HL4 hne
  go_wp2
  have hgb : Held (w.heap.size ≤ g) := ⟨HL5.out.ge⟩
  go_loopw [6] (fun i wr => ∃ (k : Nat) (zs : List Int), i = .int .i64 k ∧ k ≤ n ∧ k ≤ m ∧ Held (Byt zs) ∧ Held (Lent wr w.heap.size g n c1 zs) ∧ Held (Below w.heap.size w wr)) (fun i _ => n - (intOf i).toNat)
  case atStart => exact ⟨0, xs, rfl, Nat.zero_le _, Nat.zero_le _, Hb, HL5, HB5⟩
  case round =>
    obtain ⟨k, zs, rfl, hkn, hkm, Hz, HL, HB⟩ := hrel
    by_cases hlt : k < n
    · by_cases hlt2 : k < m
      · obtain ⟨hc1, hf1⟩ := HL.out.cell hlt
        obtain ⟨ad, rfl, hc2⟩ := RdN.at_ (Hr2.out.keep (Keep.of_below HB.out (fun k => ¬ k < w.heap.size)) (fun k hk => by simpa using hk)) hlt2
        have hyb := Hb2.out.getD k
        generalize ys.getD k 0 = y at *
        have Hset := Held.mk (HL.out.set_ hlt y)
        have HBs := Held.mk (HB.out.setCell (p := ⟨g, k, none⟩) hgb.out (.int .u8 y))
        go_wp2
        go_roundw
        case rel => exact ⟨k + 1, zs.set k y, by go_num, by omega, by omega, ⟨byt_set Hz.out k hyb⟩, Hset, HBs⟩
        case measure => simp [intOf]; omega
      · have hk2 : (m : Int) ≤ k := by omega
        go_wp2_with fail
        refine (sum_any _ _ n c1 zs wr HL.out.rd (by omega) Hz.out).mono ?_
        rintro e w6 ⟨rfl, hb6⟩
        have HB6 : Held (Below w.heap.size w w6) := ⟨HB.out.trans (hb6.mono HB.out.size)⟩
        have HL6 := Held.mk (HL.out.keep (Keep.of_below hb6 (fun k => wr.heap.size ≤ k)) (fun h => by have := own_lt HL.out.own g rfl; omega))
        clear hb6 HB HL
        go_wp2_with fail
        refine (refSum_any _ _ n c1 zs w6 HL6.out.rd (by omega) Hz.out).mono ?_
        rintro e w7 ⟨rfl, rfl⟩
        have hee : (((crc zs : Nat) : Int) == (crc zs : Nat)) = true := by simp
        go_wp2
        go_ret
        exact ⟨rfl, HB6.out⟩
    · have hk2 : (n : Int) ≤ k := by omega
      go_wp2_with fail
      refine (sum_any _ _ n c1 zs wr HL.out.rd (by omega) Hz.out).mono ?_
      rintro e w6 ⟨rfl, hb6⟩
      have HB6 : Held (Below w.heap.size w w6) := ⟨HB.out.trans (hb6.mono HB.out.size)⟩
      have HL6 := Held.mk (HL.out.keep (Keep.of_below hb6 (fun k => wr.heap.size ≤ k)) (fun h => by have := own_lt HL.out.own g rfl; omega))
      clear hb6 HB HL
      go_wp2_with fail
      refine (refSum_any _ _ n c1 zs w6 HL6.out.rd (by omega) Hz.out).mono ?_
      rintro e w7 ⟨rfl, rfl⟩
      have hee : (((crc zs : Nat) : Int) == (crc zs : Nat)) = true := by simp
      go_wp2
      go_ret
      exact ⟨rfl, HB6.out⟩
end Wire
namespace wireSum
open Go.ChangeShapes Go.WideShapes Go.ChangeAt Go.RowKit
theorem own : ownKnob Try.prog.godebug = none := by kernel_rfl
theorem laid : laidOutB Try.prog = true := by kernel_rfl
theorem cells : Try.prog.cellsOf 5 = 1 := by kernel_rfl
theorem bytes : Try.prog.bytesOf 5 = 1 := by kernel_rfl
theorem byt_of {l : List Int} (h : ∀ x ∈ l, (Lit.int .u8 x).wf = true) : Wire.Byt l := fun c hc => by
  have := h c hc
  simp [Lit.wf, IntKind.min, IntKind.max, IntKind.signed, IntKind.bits] at this
  omega
set_option maxRecDepth 100000 in
theorem lifted (os : Os) (started : os.Started) (H : Type) (enc : TypeId × Value → H) :
    ReturnsInHanded {} Try.checked os 4 .any (Rows.wireSumSpec.pre6 enc Try.prog Try.f4 Rows.wireSumRow.domain false) (Rows.wireSumSpec.post enc Try.prog Try.f4 false true false false) := by
  refine returnsInHanded_of_change_sized (C := Try.checked) own started (by kernel_rfl) Try.func4
    (ChangeSpec.witness6 (enc := enc) (C := Try.checked) false ⟨#[], #[.slice none 0 0, .slice none 0 0], []⟩ 8 (by kernel_rfl) (by kernel_rfl) (by kernel_rfl) (by kernel_rfl)) ?_
  intro W base args ds gs before hval0 hW _ hsz0 _
  have hsz : (DataW.weightsEach Try.prog (Try.f4.params.toList ++ Rows.wireSumSpec.plain.varTypes Try.prog) (ds ++ gs)).all (· ≤ reachBytes) = true := hsz0
  clear hsz0
  have hval : ∀ (j : Nat) t v, Try.f4.params[j]? = some t → args[j]? = some v → Value.okWide Try.prog W .any base t v := hval0
  have hW' := hW
  obtain ⟨p, q, hA0, hV, rfl, hfz, hnd⟩ := hW
  have hA : DataW.TrodAll enc Try.prog W 0 (fun _ => true) true Try.f4.params.toList args.toList ds p := hA0
  rw [Try.params4] at hA hval hsz
  obtain ⟨v0, vs0, d0, ds0, p0, q0, hargs, rfl, rfl, h0, r0⟩ := trodAll_cons hA
  obtain ⟨v1, vs1, d1, ds1, p1, q1, rfl, rfl, rfl, h1, r1⟩ := trodAll_cons r0
  obtain ⟨rfl, rfl, rfl⟩ := trodAll_nil r1
  obtain rfl : args = #[v0, v1] := by cases args; simp_all
  obtain ⟨rfl, rfl⟩ := trodVars_none hV
  have hlt : ∀ x ∈ (p0 ++ (p1 ++ [])) ++ [], x.block < W.heap.size := fun x hx => hW'.lt x hx
  obtain ⟨A0, n0, c0, xs0, rfl, hc0, hr0, hw0, hn0⟩ := Law.open_nums Try.underlying23 Try.underlying5 cells bytes (hval 0 23 v0 rfl rfl) h0 (fun x hx => hlt x (by simp [hx])) hsz (j := 0) rfl rfl
  obtain ⟨A1, n1, c1, xs1, rfl, hc1, hr1, hw1, hn1⟩ := Law.open_nums Try.underlying23 Try.underlying5 cells bytes (hval 1 23 v1 rfl rfl) h1 (fun x hx => hlt x (by simp [hx])) hsz (j := 1) rfl rfl
  clear hA0 hval0
  refine (Wire.wsum_any A0 A1 n0 c0 n1 c1 xs0 xs1 W hr0 hr1 (by omega) (by omega) (byt_of hw0) (byt_of hw1)).mono fun e W' ⟨he, hb⟩ => ?_
  subst he
  exact ⟨_, rfl, Law.post_law (tb := 4) hW' hb laid (by decide +kernel) (by intro n g t h; cases h) rfl Try.underlying4 rfl rfl rfl⟩

theorem over : Rows.wireSumRow.holds Try.pinned (OpenSpec.ofChange Rows.wireSumSpec) :=
  OpenClaim.holds_of_wide 4 Try.f4 rfl rfl rfl rfl rfl rfl rfl ⟨rfl, rfl, rfl, rfl, rfl⟩ rfl rfl rfl rfl rfl (by kernel_rfl) Try.func4 (by kernel_rfl)
    (of_decide_eq_true (by kernel_rfl)) (by unfold Func.isWrapper; first | (rw [if_pos (by decide +kernel)]; kernel_rfl) | (rw [if_neg (by decide +kernel)]; exact ⟨rfl, rfl⟩))
    (fun os started H enc _ => lifted os started H enc)
theorem proved : Rows.WireSumSaid := over
#print axioms proved
end wireSum
end Go.Proofs.Ythkhemcbkcoliaa
