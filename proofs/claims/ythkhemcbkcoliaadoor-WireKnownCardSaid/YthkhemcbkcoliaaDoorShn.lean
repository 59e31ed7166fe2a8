/- shown: the examples of the chapter: the walk (under way). -/
import Derived.Test.YthkhemcbkcoliaaDoorSom
import Derived.Test.YthkhemcbkcoliaaDoorCrc
import Derived.Test.YthkhemcbkcoliaaDoorSum
import Derived.Test.YthkhemcbkcoliaaDoorWrd
import Derived.Test.YthkhemcbkcoliaaDoorFrl
import Derived.Lib.SlBytesConst
import Derived.Test.YthkhemcbkcoliaaDoorWus
namespace Go.Proofs.YthkhemcbkcoliaaDoor
set_option linter.unusedVariables false
set_option linter.unusedSimpArgs false
namespace Wire
open Go.RowKit Mem Err Aps
def exA : List Int := [248, 248, 249, 1, 0, 1, 248, 248, 2, 97, 98]
theorem exA_is : ((((([] ++ form 248) ++ form 256) ++ form (zig (-1))) ++ form (zig 124)) ++ (form (⟨#[97, 98]⟩ : ByteArray).size ++ bts ⟨#[97, 98]⟩)) = exA := by decide +kernel
theorem rd_bytes (W : World) (L : List Int) (n : Nat) (h : L.length = n) : RdN (W.alloc (.cells (nums .u8 L).toArray 5)) (fun b => b = W.heap.size) .u8 (some ⟨W.heap.size, 0, none⟩) n L := by
  subst h
  exact ⟨by simp [nums], fun _ => ⟨_, rfl, rfl, World.news_of_block (cs := (nums .u8 L).toArray) (t := 5) (fr := (0, 0)) (heap_alloc_new _ _)⟩⟩
theorem rd_bytesF (W : World) (L : List Int) (n : Nat) (h : L.length = n) (fr : Nat × Nat) : RdN (W.alloc (.cells (nums .u8 L).toArray 5 fr)) (fun b => b = W.heap.size) .u8 (some ⟨W.heap.size, 0, none⟩) n L := by
  subst h
  exact ⟨by simp [nums], fun _ => ⟨_, rfl, rfl, World.news_of_block (cs := (nums .u8 L).toArray) (t := 5) (fr := fr) (heap_alloc_new _ _)⟩⟩
theorem wrb_step {w w' w'' : World} {B : Nat} {v : Value} {xs : List Int} (hB : w.heap.size = B) (h : Below B w w') (hw : Wr w' B B v xs) (hk : Keep (fun k => k = B ∨ v.ownBlock = some k) w' w'') : Below B w w'' := by
  subst hB
  exact ((Keep.of_below h (fun _ => False)).then hk (fun j hj h => h.elim (fun e => by omega) (fun e => by have := own_ge hw.own j e; omega))).to_below (fun _ _ h => h)
def ex9 : List Int := [49, 50, 51, 52, 53, 54, 55, 56, 57]
def exF : List Int := [2, 1, 214, 230, 111, 224, 97, 98]
theorem exF_is : frameL 1 [97, 98] = exF := by decide +kernel
theorem exU_is : unf (exF ++ [255]) = (1, [97, 98], 8, .ok) := by
  rw [← exF_is, unf_frame 1 [97, 98] [255] (by unfold U64; omega) (by decide) (by intro c hc; simp at hc; omega), exF_is]
  rfl
theorem made_32 : madeCells #[.int .u8 0] 32 = (nums .u8 (List.replicate 32 0)).toArray := by
  apply Array.toList_inj.1
  rw [toList_madeCells_one]
  simp [nums]
theorem crc_nil : crc [] = 0 := by decide +kernel
theorem crc_9 : crc ex9 = 3808858755 := by decide +kernel
theorem crc_32 : crc (List.replicate 32 0) = 2324772522 := by decide +kernel
set_option maxHeartbeats 4000000 in
set_option maxRecDepth 100000 in
theorem shown_any (w : World) (hg : Laid w) : Calls Tryd.prog 30 #[] w fun e w' => e = .returned (.bool true) ∧ Below w.heap.size w w' := by
  have HG := Held.mk hg
  clear hg
  go_enter Tryd.func30, Tryd.ntmps30
  go_wp2_with fail
  refine (newWriter_any w).mono ?_
  rintro e w1 ⟨rfl, hw1, hb1⟩
  generalize hB : w.heap.size = B at *
  have HB1 := Held.mk hb1
  have HW1 := Held.mk hw1
  clear hw1 hb1
  go_wp2_with fail
  refine (wuint_any B B _ [] 248 w1 (by unfold U64; omega) (by simp) HW1.out).mono ?_
  rintro e w2 ⟨rfl, v2, hw2, hk2, hat2⟩
  have HB2 := Held.mk (wrb_step hB HB1.out HW1.out hk2)
  have HW2 := Held.mk hw2
  clear hw2 hk2 hat2 HW1 HB1
  go_wp2_with fail
  refine (wuint_any B B v2 _ 256 w2 (by unfold U64; omega) (by decide +kernel) HW2.out).mono ?_
  rintro e w3 ⟨rfl, v3, hw3, hk3, hat3⟩
  have HB3 := Held.mk (wrb_step hB HB2.out HW2.out hk3)
  have HW3 := Held.mk hw3
  clear hw3 hk3 hat3 HW2 HB2
  go_wp2_with fail
  refine (wint_any B B v3 _ (-1) w3 (by unfold I64; omega) (by decide +kernel) HW3.out).mono ?_
  rintro e w4 ⟨rfl, v4, hw4, hk4, hat4⟩
  have HB4 := Held.mk (wrb_step hB HB3.out HW3.out hk4)
  have HW4 := Held.mk hw4
  clear hw4 hk4 hat4 HW3 HB3
  go_wp2_with fail
  refine (wint_any B B v4 _ 124 w4 (by unfold I64; omega) (by decide +kernel) HW4.out).mono ?_
  rintro e w5 ⟨rfl, v5, hw5, hk5, hat5⟩
  have HB5 := Held.mk (wrb_step hB HB4.out HW4.out hk5)
  have HW5 := Held.mk hw5
  clear hw5 hk5 hat5 HW4 HB4
  go_wp2_with fail
  refine (wtext_any B B v5 _ ⟨#[97, 98]⟩ w5 (by decide) (by decide +kernel) HW5.out).mono ?_
  rintro e w6 ⟨rfl, v6, hw6, hk6, hat6⟩
  have HB6 := Held.mk (wrb_step hB HB5.out HW5.out hk6)
  rw [exA_is] at hw6
  have HW6 := Held.mk hw6
  clear hw6 hk6 hat6 HW5 HB5
  go_wp2_with fail
  refine (done_any B B v6 _ w6 (by decide) HW6.out).mono ?_
  rintro e w7 ⟨v7, rfl, ho7, hb7⟩
  have HB7 : Held (Below B w w7) := ⟨HB6.out.trans (hb7.mono (by have := HB6.out.size; omega))⟩
  obtain ⟨A7, n7, c7, rfl, hn7, _, hr7⟩ := rd_own ho7
  have HR7 := Held.mk hr7
  clear ho7 hb7 hr7 HW6 HB6
  have hn7' : n7 = 11 := hn7.out
  subst hn7'
  have HSm : Held (Calls Tryd.prog 12 #[.slice A7 11 c7, .slice (some ⟨w7.heap.size, 0, none⟩) 11 11] (w7.alloc (.cells (nums .u8 exA).toArray 5)) fun e w' => e = .returned (.bool true) ∧ ∃ m, w' = (w7.alloc (.cells (nums .u8 exA).toArray 5)).drewN m) := ⟨by
    have h := Kit.same_any _ _ A7 (some ⟨w7.heap.size, 0, none⟩) 11 11 c7 11 exA exA (w7.alloc (.cells (nums .u8 exA).toArray 5)) (RdV.keep HR7.out ((Keep.refl (fun _ => False) w7).alloc _) (fun _ _ h => h)) (rd_bytes w7 exA 11 rfl) (by omega) (by omega)
    rw [decide_eq_true rfl] at h
    exact h⟩
  have HB8 : Held (Below B w (w7.alloc (.cells (nums .u8 exA).toArray 5))) := ⟨HB7.out.alloc (by have := HB7.out.size; omega) _⟩
  have hc : (nums .u8 exA).toArray = #[.int .u8 248, .int .u8 248, .int .u8 249, .int .u8 1, .int .u8 0, .int .u8 1, .int .u8 248, .int .u8 248, .int .u8 2, .int .u8 97, .int .u8 98] := rfl
  rw [hc] at HSm HB8
  clear hc HR7 HB7
  go_wp2_with fail
  refine HSm.out.mono ?_
  rintro e w8 ⟨rfl, m8, rfl⟩
  have HB9 : Held (Below B w (((w7.alloc (.cells #[.int .u8 248, .int .u8 248, .int .u8 249, .int .u8 1, .int .u8 0, .int .u8 1, .int .u8 248, .int .u8 248, .int .u8 2, .int .u8 97, .int .u8 98] 5)).drewN m8))) := ⟨below_drwN HB8.out m8⟩
  clear HSm HB8
  have hsz8 : (((w7.alloc (.cells #[.int .u8 248, .int .u8 248, .int .u8 249, .int .u8 1, .int .u8 0, .int .u8 1, .int .u8 248, .int .u8 248, .int .u8 2, .int .u8 97, .int .u8 98] 5)).drewN m8)).heap.size = w7.heap.size + 1 := by simp
  go_wp2_with fail
  generalize ((w7.alloc (.cells #[.int .u8 248, .int .u8 248, .int .u8 249, .int .u8 1, .int .u8 0, .int .u8 1, .int .u8 248, .int .u8 248, .int .u8 2, .int .u8 97, .int .u8 98] 5)).drewN m8) = w9 at *
  rw [← hsz8]
  have HN1 := Held.mk (newReader_any _ (some ⟨w9.heap.size, 0, none⟩) 4 4 [2, 97, 98, 99] (w9.alloc (.cells (nums .u8 [2, 97, 98, 99]).toArray 5)) (rd_bytes w9 [2, 97, 98, 99] 4 rfl) (by omega) (by omega) (by intro c hc; simp at hc; omega))
  refine HN1.out.mono ?_
  rintro e w10 ⟨B1, ok1, A1, n1, c1, rfl, hge1, hok1, hr1, hb10⟩
  have HBa : Held (Below B w (w9.alloc (.cells (nums .u8 [2, 97, 98, 99]).toArray 5))) := ⟨HB9.out.alloc (by have := HB9.out.size; omega) _⟩
  have HB10 : Held (Below B w w10) := ⟨HBa.out.trans (hb10.mono (by have := HBa.out.size; omega))⟩
  have HR1 := Held.mk hr1.low
  have HL1 : Held (B1 < w10.heap.size) := ⟨hr1.blk.lt⟩
  have HLb : Held (B ≤ B1) := ⟨by
    have h1 := HB9.out.size
    have h2 := hge1
    simp at h2
    omega⟩
  clear hr1 hb10 hge1 hok1 HN1 HBa HB9 hsz8
  go_wp2_with fail
  have HN2 := Held.mk (newReader_any _ (some ⟨w10.heap.size, 0, none⟩) 2 2 [248, 247] (w10.alloc (.cells (nums .u8 [248, 247]).toArray 5)) (rd_bytes w10 [248, 247] 2 rfl) (by omega) (by omega) (by intro c hc; simp at hc; omega))
  refine HN2.out.mono ?_
  rintro e w11 ⟨B2, ok2, A2, n2, c2, rfl, hge2, hok2, hr2, hb11⟩
  have HBa : Held (Below B w (w10.alloc (.cells (nums .u8 [248, 247]).toArray 5))) := ⟨HB10.out.alloc (by have := HB10.out.size; omega) _⟩
  have HB11 : Held (Below B w w11) := ⟨HBa.out.trans (hb11.mono (by have := HBa.out.size; omega))⟩
  have HR2 := Held.mk hr2
  have kk : Keep (fun _ => False) w10 w11 := ((Keep.refl (fun _ => False) w10).alloc _).trans (Keep.of_below hb11 _)
  have HR1b := Held.mk (HR1.out.keep kk (fun h => h) (fun _ _ h => h))
  have HNb : Held (B1 < B2 ∧ ∀ j, ok2 j → w10.heap.size ≤ j) := ⟨by
    have h1 := hge2
    have h2 := HL1.out
    simp at h1
    refine ⟨by omega, fun j hj => ?_⟩
    have := hok2 j hj
    simp at this
    omega⟩
  clear hr2 hb11 hge2 hok2 HN2 HBa HB10 kk HR1
  go_wp2_with fail
  refine (rtext_any _ B1 A1 n1 c1 ⟨[2, 97, 98, 99], .ok⟩ 2 w11 (by unfold I64; omega) HR1b.out).mono ?_
  have ht : textM ⟨[2, 97, 98, 99], .ok⟩ 2 = ([97, 98], ⟨[99], .ok⟩) := by rfl
  have hs : strOfNums [97, 98] = ⟨#[97, 98]⟩ := by decide +kernel
  rw [ht]
  rintro e w12 ⟨rfl, ⟨A3, n3, c3, hr3⟩, hk12⟩
  simp only [hs]
  have HR3 := Held.mk hr3
  have HB12 : Held (Below B w w12) := ⟨by
    have h1 := HB11.out
    have h2 := HL1.out
    rw [← hB] at h1 ⊢
    exact ((Keep.of_below h1 (fun _ => False)).then hk12 (fun j hj e => by have := HLb.out; omega)).to_below (fun _ _ h => h)⟩
  have HR2b := Held.mk (HR2.out.keep hk12 (fun e => by have := HNb.out.1; omega) (fun j hj e => by have := HNb.out.2 j hj; have := HL1.out; omega))
  clear hr3 hk12 ht hs HR1b HR2 HB11
  go_wp2_with fail
  refine (end_any _ B1 A3 n3 c3 ⟨[99], .ok⟩ w12 HR3.out).mono ?_
  rintro e w13 ⟨rfl, rfl⟩
  have HE1 : (endM ⟨[99], .ok⟩).enc = Er.enc (.ref wBehind 3) := by rfl
  rw [HE1]
  have HLd : Held (Laid w12) := ⟨HG.out.below (hB.symm ▸ HB12.out)⟩
  have HPl := Held.mk (plain_ref wBehind 3 (by decide) (by decide) w12 HLd.out)
  generalize hv1 : Er.enc (.ref wBehind 3) = ev1 at *
  clear hv1 HE1
  go_wp2_with fail
  refine HPl.out.mono ?_
  rintro e w13 ⟨rfl, hb13⟩
  have k13 := Keep.of_below hb13 (fun _ => False)
  have HB13 : Held (Below B w w13) := ⟨HB12.out.trans (hb13.mono (by have := HB12.out.size; omega))⟩
  have HR4 := Held.mk (HR3.out.low.keep k13 (fun h => h) (fun _ _ h => h))
  have HR2c := Held.mk (HR2b.out.low.keep k13 (fun h => h) (fun _ _ h => h))
  clear hb13 k13 HPl HB12 HR3 HR2b HLd
  go_wp2_with fail
  refine (err_any _ B1 A3 n3 c3 ⟨[99], .ok⟩ w13 HR4.out).mono ?_
  rintro e w14 ⟨rfl, rfl⟩
  have HE2 : (RS.er ⟨[99], .ok⟩).enc = .nilIface := rfl
  rw [HE2]
  clear HE2
  go_wp2_with fail
  refine (ruint_any _ B2 A2 n2 c2 ⟨[248, 247], .ok⟩ 300 w13 HR2c.out).mono ?_
  obtain ⟨ws, hu⟩ : ∃ ws : ByteArray, uintM ⟨[248, 247], .ok⟩ 300 = (0, ⟨[248, 247], .ref ws 4⟩) := ⟨_, rfl⟩
  rw [hu]
  clear hu
  rintro e w14 ⟨rfl, ⟨A4, n4, c4, hr5⟩, hk14⟩
  have HR5 := Held.mk hr5
  have HB14 : Held (Below B w w14) := ⟨by
    have h1 := HB13.out
    have h2 := HNb.out.1
    have h3 := HLb.out
    rw [← hB] at h1 h3 ⊢
    exact ((Keep.of_below h1 (fun _ => False)).then hk14 (fun j hj e => by omega)).to_below (fun _ _ h => h)⟩
  clear hr5 hk14 HR4 HR2c HB13
  go_wp2_with fail
  refine (err_any _ B2 A4 n4 c4 ⟨[248, 247], .ref ws 4⟩ w14 HR5.out).mono ?_
  rintro e w15 ⟨rfl, rfl⟩
  have HE2 : (RS.er ⟨[248, 247], .ref ws 4⟩).enc = Er.enc (.ref ws 4) := rfl
  rw [HE2]
  have HPl := Held.mk (plain_ref ws 4 (by decide) (by decide) w14 (HG.out.below (hB.symm ▸ HB14.out)))
  generalize hv2 : Er.enc (.ref ws 4) = ev2 at *
  clear hv2 HE2
  go_wp2_with fail
  refine HPl.out.mono ?_
  rintro e w15 ⟨rfl, hb15⟩
  have HB15 : Held (Below B w w15) := ⟨HB14.out.trans (hb15.mono (by have := HB14.out.size; omega))⟩
  have HR6 := Held.mk (HR5.out.low.keep (Keep.of_below hb15 (fun _ => False)) (fun h => h) (fun _ _ h => h))
  clear hb15 HPl HB14 HR5
  go_wp2_with fail
  refine (left_any _ B2 A4 n4 c4 ⟨[248, 247], .ref ws 4⟩ w15 HR6.out).mono ?_
  rintro e w16 ⟨rfl, rfl⟩
  have hl2 : ((RS.xs ⟨[248, 247], .ref ws 4⟩).length : Int) = 2 := rfl
  rw [hl2]
  clear hl2 HR6
  go_wp2_with fail
  refine (sum_any (fun _ => False) none 0 0 [] w15 RdV.none_ (by omega) (by intro c hc; simp at hc)).mono ?_
  rw [crc_nil]
  rintro e w16 ⟨rfl, hb16⟩
  have HB16 : Held (Below B w w16) := ⟨HB15.out.trans (hb16.mono (by have := HB15.out.size; omega))⟩
  clear hb16 HB15
  go_wp2_with fail
  have hcv : ∀ (W : World) (C : Array Value) (n c : Nat), (convert 23 23 (.slice (some ⟨W.heap.size, 0, none⟩) n c)).run Tryd.prog (W.alloc (.cells C 5)) = .ok (.slice (some ⟨W.heap.size, 0, none⟩) n c) (W.alloc (.cells C 5 (C.size, C.size + 1))) := fun W C n c => Lib.run_convert_bytes_const W 23 5 C n c Tryd.underlying23 Tryd.underlying5
  go_wp2_with fail
  rw [hcv]
  go_wp2_with fail
  have HS9 := Held.mk (sum_any _ (some ⟨w16.heap.size, 0, none⟩) 9 9 ex9 (w16.alloc (.cells (nums .u8 ex9).toArray 5 (9, 10))) (rd_bytesF w16 ex9 9 rfl _) (by omega) (by intro c hc; simp [ex9] at hc; omega))
  rw [crc_9] at HS9
  have HBa : Held (Below B w (w16.alloc (.cells (nums .u8 ex9).toArray 5 (9, 10)))) := ⟨HB16.out.alloc (by have := HB16.out.size; omega) _⟩
  refine HS9.out.mono ?_
  rintro e w17 ⟨rfl, hb17⟩
  have HB17 : Held (Below B w w17) := ⟨HBa.out.trans (hb17.mono (by have := HBa.out.size; omega))⟩
  clear hb17 HBa HS9 HB16
  obtain ⟨z32, hz⟩ : ∃ z : List Int, z = List.replicate 32 0 := ⟨_, rfl⟩
  have hzl : Held (z32.length = 32) := ⟨by rw [hz]; rfl⟩
  have hzb : Held (Byt z32) := ⟨by rw [hz]; intro c hc; simp at hc; omega⟩
  have hmk : ∀ W : World, (Instr.makeSlice 23 (.int .i64 32) (.int .i64 32)).run Tryd.prog W = .ok (.slice (some ⟨W.heap.size, 0, none⟩) 32 32) (W.alloc (.cells (nums .u8 z32).toArray 5)) :=
    fun W => by
      have h := run_make_row' (P := Tryd.prog) 23 5 (.int .u8 0) 1 Tryd.underlying23 info_u8 rfl .i64 .i64 32 (by omega) (by omega) W
      rw [hz, ← made_32]
      exact h
  have hcr : Held (crc z32 = 2324772522) := ⟨by rw [hz]; exact crc_32⟩
  clear hz
  go_wp2_with fail
  have HS9 := Held.mk (sum_any _ (some ⟨w17.heap.size, 0, none⟩) 32 32 z32 (w17.alloc (.cells (nums .u8 z32).toArray 5)) (rd_bytes w17 z32 32 hzl.out) (by omega) hzb.out)
  rw [hcr.out] at HS9
  have HBa : Held (Below B w (w17.alloc (.cells (nums .u8 z32).toArray 5))) := ⟨HB17.out.alloc (by have := HB17.out.size; omega) _⟩
  refine HS9.out.mono ?_
  rintro e w18 ⟨rfl, hb18⟩
  have HB18 : Held (Below B w w18) := ⟨HBa.out.trans (hb18.mono (by have := HBa.out.size; omega))⟩
  clear hb18 HBa HS9 HB17 hmk hcr hzl hzb
  go_wp2_with fail
  have HFa := Held.mk (frame_in _ 1 (some ⟨w18.heap.size, 0, none⟩) 2 2 [97, 98] (w18.alloc (.cells (nums .u8 [97, 98]).toArray 5 (2, 3))) (rd_bytesF w18 [97, 98] 2 rfl _) (by omega) (by unfold U64; omega) (by intro c hc; simp at hc; omega))
  rw [exF_is] at HFa
  have HBa : Held (Below B w (w18.alloc (.cells (nums .u8 [97, 98]).toArray 5 (2, 3)))) := ⟨HB18.out.alloc (by have := HB18.out.size; omega) _⟩
  refine HFa.out.mono ?_
  rintro e w19 ⟨v19, rfl, ho19, hb19⟩
  have HB19 : Held (Below B w w19) := ⟨HBa.out.trans (hb19.mono (by have := HBa.out.size; omega))⟩
  obtain ⟨Af, nf, cf, hvf, hnf, hcf, hrf⟩ := rd_own ho19
  obtain ⟨bf, rfl⟩ : ∃ bf, v19 = .slice (some ⟨bf, 0, none⟩) 8 cf := by
    rcases ho19.2 with ⟨_, h0⟩ | ⟨g, cap, cur, e, _⟩
    · simp [exF] at h0
    · rw [e] at hvf
      injection hvf with h1 h2 h3
      exact ⟨g, by rw [e, h3]; rfl⟩
  injection hvf with h1 h2 h3
  subst h1
  obtain rfl : nf = 8 := hnf.out
  obtain ⟨_, h_, hc0⟩ := hrf.at_ (show 0 < 8 by omega)
  cases h_
  obtain ⟨_, h_, hc1⟩ := hrf.at_ (show 1 < 8 by omega)
  cases h_
  obtain ⟨_, h_, hc6⟩ := hrf.at_ (show 6 < 8 by omega)
  cases h_
  have HO := Held.mk ho19
  have HRf := Held.mk hrf
  have HLs : Held ((w18.alloc (.cells (nums .u8 [97, 98]).toArray 5 (2, 3))).heap.size ≤ w19.heap.size ∧ B ≤ w18.heap.size + 1) := ⟨by have h1 := HBa.out.size; have h2 := hb19.size; simp at h1; constructor <;> omega⟩
  clear ho19 hb19 HB18 HFa hnf hrf HBa
  simp [exF, Addr.add] at hc0 hc1 hc6
  have HX : Held ((w18.alloc (.cells (nums .u8 [97, 98]).toArray 5 (2, 3))).heap.size ≤ (w19.alloc (.cells #[.int .u8 255] 5)).heap.size) := ⟨by have := HLs.out.1; simp at this ⊢; omega⟩
  have HOa : Held ((w19.alloc (.cells #[.int .u8 255] 5)).ownsRow (w18.alloc (.cells (nums .u8 [97, 98]).toArray 5 (2, 3))).heap.size 5 1 (.slice (some ⟨bf, 0, none⟩) 8 cf) 8 (nums .u8 exF)) := ⟨by have := HO.out; unfold OwnN at this; exact this.alloc _⟩
  have HRa : Held (RdV (w19.alloc (.cells #[.int .u8 255] 5)) (fun _ => True) 1 (some ⟨w19.heap.size, 0, none⟩) 1 [.int .u8 255]) := ⟨rfl, fun _ => ⟨_, rfl, trivial, World.news_of_block (cs := #[.int .u8 255]) (t := 5) (fr := (0, 0)) (heap_alloc_new _ _)⟩⟩
  have hsw : Held ((w19.alloc (.cells #[.int .u8 255] 5)).heap.size = w19.heap.size + 1) := ⟨by simp⟩
  go_wp2_with ((at_builtin; go_loud (refine appS _ (w18.alloc (.cells (nums .u8 [97, 98]).toArray 5 (2, 3))).heap.size rfl (.tmp 127) (.tmp 128) 23 5 (.int .u8 0) 1 1 rfl Tryd.underlying23 info_u8 rfl (by decide) (by decide) (.slice (some ⟨bf, 0, none⟩) 8 cf) 8 (nums .u8 exF) rfl HOa.out (fun _ => True) (some ⟨w19.heap.size, 0, none⟩) 1 1 [.int .u8 255] rfl HRa.out (by simp [Value.oneCell']) (by decide) HX.out ?_)); (intro v20 w20 ho20 hg20 hat20))
  have HO20 : Held (OwnN w20 (w18.alloc (.cells (nums .u8 [97, 98]).toArray 5 (2, 3))).heap.size 5 .u8 v20 (exF ++ [255])) := ⟨ho20⟩
  have HB20 : Held (Below B w w20) := ⟨by
    have h1 := own_ge HO.out
    have h2 := HB19.out
    have h3 := HLs.out.2
    have h4 : (w18.alloc (.cells (nums .u8 [97, 98]).toArray 5 (2, 3))).heap.size = w18.heap.size + 1 := by simp
    rw [← hB] at h2 h3 ⊢
    exact (((Keep.of_below h2 (fun _ => False)).alloc _).grown hg20 (fun j hj e => by have := h1 j e; omega)).to_below (fun _ _ h => h)⟩
  clear ho20 hg20 hat20 HX HOa HRa hsw HRf HO HLs HB19 hc0 hc1 hc6
  obtain ⟨Au, nu, cu, rfl, hnu, hcu, hru⟩ := rd_own HO20.out
  obtain rfl : nu = 9 := hnu.out
  have HUn := Held.mk (unframe_any _ Au 9 cu (exF ++ [255]) w20 hru hcu (by omega) (by intro c hc; simp [exF] at hc; omega))
  rw [exU_is, show Er.enc .ok = .nilIface from rfl] at HUn
  refine HUn.out.mono ?_
  rintro e w21 ⟨v21, rfl, ho21, hb21⟩
  have HB21 : Held (Below B w w21) := ⟨HB20.out.trans (hb21.mono (by have := HB20.out.size; omega))⟩
  obtain ⟨Ap, np, cp, rfl, hnp, hcp, hrp⟩ := rd_own ho21
  obtain rfl : np = 2 := hnp.out
  have hcs := cvtS (P := Tryd.prog) 23 9 5 (c := cp) Tryd.underlying23 Tryd.underlying5 Tryd.underlying9 hrp (by intro c hc; simp at hc; omega)
  have hs : strOfNums [97, 98] = ⟨#[97, 98]⟩ := by decide +kernel
  rw [hs] at hcs
  clear ho21 hb21 hrp hnp hs HUn HB20 HO20 hru hnu
  go_wp2_with fail
  go_ret
  exact ⟨rfl, hB.symm ▸ HB21.out⟩
end Wire
end Go.Proofs.YthkhemcbkcoliaaDoor
