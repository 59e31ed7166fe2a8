/- JournalKeeps: the walk. -/
import Derived.Test.YtihgmlcmdpmhhaaKop
import Derived.Deep.DeepCutAuto
import Derived.Deep.CutBlock
import Derived.Deep.Cut
namespace Go.Proofs.Ytihgmlcmdpmhhaa
set_option linter.unusedVariables false
set_option linter.unusedSimpArgs false
namespace Jrn
open Go.RowKit Mem Apn Wire Aps AptBytes
theorem Dp.slc {b : Nat} {G : Nat → Prop} {w : World} {P : Nat} {s : DS} {v : Value} {all : List (List Int)} (h : Dp b G w P s v all) : ∃ A c, v = .slice A all.length c ∧ all.length ≤ c := by
  obtain ⟨F, _, _, h⟩ := h.ex
  exact h.slc
structure Lg where
  recs : List (List Int)
  syncs : Int
  inn : Int
  keep : Int
/-- The legs that came in: read. -/
structure RdL (w : World) (ok : Nat → Prop) (A : Option Addr) (n : Nat) (ls : List Lg) : Prop where
  len : ls.length = n
  at_ : ∀ k, k < n → ∃ ad a c l, A = some ad ∧ ls[k]? = some l ∧ ok (ad.add (k * 4)).block ∧ w.cell? (ad.add (k * 4)) = some (.slice a l.recs.length c) ∧ w.cell? ⟨(ad.add (k * 4)).block, (ad.add (k * 4)).off + 1, none⟩ = some (.int .i64 l.syncs) ∧ w.cell? ⟨(ad.add (k * 4)).block, (ad.add (k * 4)).off + 2, none⟩ = some (.int .i64 l.inn) ∧ w.cell? ⟨(ad.add (k * 4)).block, (ad.add (k * 4)).off + 3, none⟩ = some (.int .i64 l.keep) ∧
    l.recs.length ≤ c ∧ RdR w ok a l.recs.length l.recs
def LgGood (l : Lg) : Prop := I64 l.syncs ∧ I64 l.inn ∧ I64 l.keep ∧ l.recs.length ≤ 9000000000000 ∧ ∀ r ∈ l.recs, Byt r ∧ r.length ≤ 140737488351232
/-- Within a leg: alive, or dead. -/
def Inn : Bool → DS → JS → List (List Int) → Nat → Prop
  | false, s, j, all, l => Str s j all l
  | true, s, _, all, l => Mid s all l
def fcap : Bool → Nat → Nat
  | false, i => 2 * i
  | true, i => 2 * i + 1
set_option maxHeartbeats 8000000 in
set_option maxRecDepth 200000 in
theorem jkeeps_any (A : Option Addr) (n c : Nat) (ls : List Lg) (w : World) (hr : RdL w (fun k => k < w.heap.size) A n ls) (hc : n ≤ c) (hn : n ≤ 9000000000000) (hb : ∀ l ∈ ls, LgGood l) :
    Calls Try.prog 4 #[.slice A n c] w fun e w' => e = .returned (.bool true) ∧ Below w.heap.size w w' := by
  have HR := Held.mk hr
  have HLn := Held.mk hr.len
  have HB := Held.mk hb
  have HN := Held.mk (dn_new (fun _ => False) none 0 0 [] w RdV.none_ (by omega))
  clear hr hb
  go_enter Try.func4, Try.ntmps4
  go_wp2_with fail
  refine HN.out.mono ?_
  rintro e w1 ⟨P, rfl, hD1, hB1⟩
  have HD1 := Held.mk hD1
  have HB1 := Held.mk hB1
  clear hD1 hB1 HN
  go_wp2_with fail
  refine (works_any w1).mono ?_
  rintro e w2 ⟨rfl, hB2⟩
  have HDp := Held.mk (dp_first (HD1.out.below hB2) (Nat.le_trans HB1.out.size hB2.size))
  have HF2 : Held (From w.heap.size w w2) := ⟨(From.of_below HB1.out).trans (Keep.of_below hB2 _)⟩
  clear hB2 HD1 HB1
  go_wp2_with fail
  go_loopw [4, 5, 6] (fun v4 v5 i wr => ∃ (k l : Nat) (s : DS) (all : List (List Int)) (G : Nat → Prop), i = .int .i64 k ∧ v5 = .int .i64 l ∧ k ≤ n ∧ Held (Dp w.heap.size G wr P s v4 all) ∧ Held (Out s all l) ∧ Held (s.failed ≤ 2 * k) ∧ Held (From w.heap.size w wr)) (fun _ _ i _ => n - (intOf i).toNat)
  case atStart => exact ⟨0, 0, newS [], [], _, rfl, rfl, Nat.zero_le _, HDp, ⟨⟨rfl, rfl, ⟨0, rfl, by simp [fln, frs]⟩, Nat.le_refl _, ⟨by simp [newS], by simp [newS], by simp [newS], by simp [newS], by simp [newS]⟩, by simp, fun r h => by simp at h⟩⟩, ⟨by simp [newS]⟩, HF2⟩
  case round =>
    obtain ⟨k, l, s, all, G, rfl, rfl, hk, HD, HO, HFl, HFr⟩ := hrel
    obtain ⟨A4, c4, rfl, hc4⟩ := HD.out.slc
    obtain ⟨j0, hj1, hj2, hsc, hop, hstr, hfl0, hin0⟩ := HO.out.open_
    have hlen0 : (all.take j0).length = j0 := by rw [List.length_take]; omega
    have hfew := HO.out.few
    have hByt : Byt s.B := by obtain ⟨cc, h1, _⟩ := HO.out.B; rw [h1]; exact (Byt.frs HO.out.recs (by omega)).take _
    have HOp := Held.mk (dp_open w.heap.size P G s _ all wr HD.out (HO.out.bd.good (by have := HFl.out; omega)) (by have := HO.out.bd.lb; omega) (by have := HFl.out; omega) hByt (by rw [hop]) HFr.out.size)
    rw [hop, hsc] at HOp
    simp only at HOp
    have HStr := Held.mk hstr
    have Hf0 := Held.mk hfl0
    have Hj2 := Held.mk hj2
    have Hlen0 := Held.mk hlen0
    have hall : ∀ r ∈ all, r.length ≤ 9223372036854775807 := fun r h => by have := (HO.out.recs r h).1; omega
    have Hall := Held.mk hall
    have Hrec := Held.mk (HO.out.recs.take j0)
    have Hfew := Held.mk hfew
    obtain ⟨got, hgot⟩ : ∃ got, all.take j0 = got := ⟨_, rfl⟩
    have HGot := Held.mk hgot
    rw [hgot] at HOp HStr Hlen0 Hrec
    obtain ⟨q, hq⟩ : ∃ q, all.length = q := ⟨_, rfl⟩
    have Hq := Held.mk hq
    rw [hq] at hc4 Hj2 Hfew HOp HD ⊢
    have hjq : j0 ≤ q := Hj2.out
    have hqf : q ≤ 16777217 := Hfew.out
    clear hj2 hsc hop hstr hfl0 hin0 hlen0 hfew hByt hall hgot hq
    by_cases hkn : k < n
    · have hkI : (k : Int) < (n : Int) := by omega
      go_wp2_with fail
      refine HOp.out.mono ?_
      rintro e w3 ⟨J, vg, rfl, hR3, hK3, hG3⟩
      obtain ⟨Ag, cg, rfl, hcg, hrg⟩ := hR3.rd
      rw [Hlen0.out] at hrg hcg hR3 ⊢
      have HF3 : Held (From w.heap.size w w3) := ⟨HFr.out.trans (hG3.from_ HD.out.hb)⟩
      have HK3 := Held.mk hK3
      have hAl : RdR w3 (fun _ => True) A4 q all := by obtain ⟨F, _, _, _, h⟩ := hK3.ex; exact h.rd Hq.out
      have HBg := Held.mk (begins_any _ _ Ag A4 j0 q cg c4 l got all w3 hrg hAl hc4 (by omega) Hall.out hjq hj1 HGot.out.symm)
      clear hK3 hG3 hAl HOp
      go_wp2_with fail
      refine HBg.out.mono ?_
      rintro e w4 ⟨rfl, m4, rfl⟩
      have hB4 : Below w3.heap.size w3 (w3.drewN m4) := below_drewN (Below.refl _ _) m4
      have HK4 := Held.mk (HK3.out.below hB4)
      have HF4 : Held (From w.heap.size w (w3.drewN m4)) := ⟨HF3.out.trans (Keep.of_below hB4 _)⟩
      have HCr := Held.mk (copyrec_any _ Ag j0 cg got (w3.drewN m4) (hrg.drewN m4) hcg (by omega) (fun r h => (Hrec.out r h).1))
      clear hB4 HK3 HF3 HBg hrg hR3
      generalize w3.drewN m4 = w4 at *
      go_wp2_with fail
      refine HCr.out.mono ?_
      rintro e w5 ⟨vn, rfl, hR5, hB5⟩
      obtain ⟨An, cn, rfl, hcn⟩ := hR5.slc
      rw [Hlen0.out] at hR5 hcn ⊢
      have HR5 := Held.mk hR5
      have HB5 := Held.mk hB5
      have HF5 : Held (From w.heap.size w w5) := ⟨HF4.out.trans (Keep.of_below hB5 _)⟩
      obtain ⟨ad, ar, cr, lg, rfl, hlg, hokb, e0, e1, e2, e3, hcr, hrr⟩ := HR.out.at_ k hkn
      obtain ⟨nr, hnr⟩ : ∃ nr, lg.recs.length = nr := ⟨_, rfl⟩
      rw [hnr] at e0 hcr hrr
      have HNr := Held.mk hnr
      clear hnr
      have f0 := HF5.out.cell e0 (fun h => by omega)
      have f1 := HF5.out.cell e1 (fun h => by simp only at h; omega)
      have f2 := HF5.out.cell e2 (fun h => by simp only at h; omega)
      have f3 := HF5.out.cell e3 (fun h => by simp only at h; omega)
      clear hR5 hB5 HCr e0 e1 e2 e3
      have HLg : Held (LgGood lg) := ⟨HB.out lg (by rw [List.mem_iff_getElem?]; exact ⟨k, hlg⟩)⟩
      have hinn : -9223372036854775808 ≤ lg.inn ∧ lg.inn ≤ 9223372036854775807 := HLg.out.2.1
      have hkp : -9223372036854775808 ≤ lg.keep ∧ lg.keep ≤ 9223372036854775807 := HLg.out.2.2.1
      obtain ⟨w6, hw6⟩ : ∃ w6, w5.alloc (.cells #[.slice ar nr cr, .int .i64 lg.syncs, .int .i64 lg.inn, .int .i64 lg.keep] 47) = w6 := ⟨_, rfl⟩
      obtain ⟨Gx, hGx⟩ : ∃ Gx, Gn w.heap.size w4 w5 (.slice An j0 cn) = Gx := ⟨_, rfl⟩
      have hK6 := kp_fresh (b := w.heap.size) HK4.out HR5.out HB5.out HF4.out.size (.cells #[.slice ar nr cr, .int .i64 lg.syncs, .int .i64 lg.inn, .int .i64 lg.keep] 47)
      rw [hw6, hGx] at hK6
      have HK6 := Held.mk hK6
      have HX : Held (Blk w6 w5.heap.size 47 #[.slice ar nr cr, .int .i64 lg.syncs, .int .i64 lg.inn, .int .i64 lg.keep]) := ⟨by rw [← hw6]; exact Blk.new _ _ _⟩
      have HGX : Held (Gx w5.heap.size) := ⟨by rw [← hGx]; exact .inr (.inr rfl)⟩
      have HF6 : Held (From w.heap.size w w6) := ⟨by rw [← hw6]; exact HF5.out.trans ((Keep.refl _ _).alloc _)⟩
      have HW6 := Held.mk hw6
      have HS0 : Held (Str (openI s) (openJ s) got j0 ∧ (openI s).failed ≤ 2 * k) := ⟨by have := HStr.out; rw [Hlen0.out] at this; exact this, by have := Hf0.out; have := HFl.out; omega⟩
      have hjk0 : j0 ≤ 16777217 := by omega
      clear hK6 hGx hokb hlg HStr Hf0 HK4 HR5 HB5 HF4 HF5
      generalize openI s = s1 at *
      generalize openJ s = jj at *
      have x2 := HX.out.cell 2
      have x3 := HX.out.cell 3
      go_upto_if 69 with fail
      clear hw6 f0 f1 f2 f3
      go_cut [] (fun wx => ∃ s2, Held (Kp w.heap.size Gx wx J P s2 jj (.slice An j0 cn) got) ∧ Held (Str s2 jj got j0 ∧ s2.failed ≤ 2 * k) ∧ Held (Kg Gx w6 wx))
      case first =>
        by_cases hin : 0 < lg.inn
        · have HAr := Held.mk (kp_arm w.heap.size J P Gx s1 jj _ got lg.inn lg.keep w6 HK6.out hinn)
          have hsa := HS0.out.1.arm lg.inn lg.keep hinn.2 hkp
          have HSa : Held (Str (armS s1 lg.inn lg.keep) jj got j0 ∧ (armS s1 lg.inn lg.keep).failed ≤ 2 * k) := ⟨hsa.1, by rw [hsa.2]; exact HS0.out.2⟩
          clear hsa
          go_wp2_with fail
          refine HAr.out.mono ?_
          rintro e w7 ⟨rfl, hK7, hg7⟩
          have HK7 := Held.mk hK7
          have HG7 := Held.mk hg7
          clear hK7 hg7 HAr
          go_wp2_with fail
          go_meet
          exact ⟨_, HK7, HSa, HG7⟩
        · go_wp2_with fail
          go_meet
          exact ⟨_, HK6, HS0, ⟨Keep.refl _ _⟩⟩
      case rest =>
        obtain ⟨s2, HK7, HS7, HG7⟩ := hcut
        have HX7 := Held.mk (HX.out.keep HG7.out (fun h => h HGX.out))
        have hnr9 : nr ≤ 9000000000000 := by have := HLg.out.2.2.2.1; rw [HNr.out] at this; exact this
        have HRr := Held.mk hrr
        clear hrr
        go_upto_block 2 with fail
        go_cut [4, 5, 11] (fun v4 v5 dv wx => ∃ (s3 : DS) (j3 : JS) (all3 : List (List Int)) (l3 : Nat) (dd : Bool), v5 = .int .i64 l3 ∧ dv = .bool dd ∧ Held (Kp w.heap.size Gx wx J P s3 j3 v4 all3) ∧ Held (Inn dd s3 j3 all3 l3) ∧ Held (s3.failed ≤ fcap dd k) ∧ Held (Kg Gx w6 wx))
        case first =>
          go_wp2_with fail
          go_loopw [4, 5, 11, 12] (fun v4 v5 dv i wx => ∃ (kk : Nat) (s3 : DS) (j3 : JS) (all3 : List (List Int)) (l3 : Nat) (dd : Bool), i = .int .i64 kk ∧ v5 = .int .i64 l3 ∧ dv = .bool dd ∧ kk ≤ nr ∧ Held (Kp w.heap.size Gx wx J P s3 j3 v4 all3) ∧ Held (Inn dd s3 j3 all3 l3) ∧ Held (s3.failed ≤ fcap dd k) ∧ Held (Kg Gx w6 wx)) (fun _ _ _ i _ => nr - (intOf i).toNat)
          case atStart => exact ⟨0, s2, jj, got, j0, false, rfl, rfl, rfl, Nat.zero_le _, HK7, ⟨HS7.out.1⟩, ⟨HS7.out.2⟩, HG7⟩
          case round =>
            obtain ⟨kk, s3, j3, all3, l3, dd, rfl, rfl, rfl, hkk, HK, HI, HFd, HG⟩ := hrel
            by_cases hkr : kk < nr
            · have hkrI : (kk : Int) < (nr : Int) := by omega
              have HXk := Held.mk (HX.out.keep HG.out (fun h => h HGX.out))
              have x0 := HXk.out.cell 0
              cases dd with
              | true =>
                go_wp2_with fail
                go_meet
                exact ⟨s3, j3, all3, l3, true, rfl, rfl, HK, HI, HFd, HG⟩
              | false =>
                have hst : Str s3 j3 all3 l3 := HI.out
                have hf3 : s3.failed ≤ 2 * k := HFd.out
                have hq16 := hst.few
                obtain ⟨A5, c5, rfl, hc5⟩ := HK.out.dp.slc
                obtain ⟨q3, hq3⟩ : ∃ q3, all3.length = q3 := ⟨_, rfl⟩
                have Hq3 := Held.mk hq3
                rw [hq3] at HK hc5 hq16 ⊢
                have hFrm : From w.heap.size w wr := HF6.out.trans (HG.out.from_ HK.out.hb)
                have hFs : Held (w.heap.size ≤ wr.heap.size) := ⟨hFrm.size⟩
                obtain ⟨adr, a1, c1, rfl, hcl, hc1, hrd⟩ := (HRr.out.keep hFrm (fun k h1 h2 => by omega)).at_ hkr
                obtain ⟨l, hl⟩ : ∃ l, (lg.recs.getD kk []).length = l := ⟨_, rfl⟩
                rw [hl] at hcl hc1 hrd
                have hmem : lg.recs.getD kk [] ∈ lg.recs := by
                  rw [List.getD_eq_getElem?_getD, List.getElem?_eq_getElem (by rw [HNr.out]; exact hkr)]
                  exact List.getElem_mem _
                have hBk := (HLg.out.2.2.2.2 _ hmem).1
                have hlm := (HLg.out.2.2.2.2 _ hmem).2
                rw [hl] at hlm
                obtain ⟨rr, hre⟩ : ∃ rr, sh (lg.recs.getD kk []) = rr := ⟨_, rfl⟩
                have HBr : Held (Byt rr) := ⟨by rw [← hre]; exact fun c hc => hBk c (List.mem_of_mem_take hc)⟩
                have hhb := HK.out.hb
                obtain ⟨mm, hmm⟩ : ∃ mm, rr.length = mm := ⟨_, rfl⟩
                have HM := Held.mk hmm
                have hmc : Held (mm ≤ c1) := ⟨by rw [← hmm, ← hre, sh_length]; omega⟩
                have hm5 : mm ≤ 5000 := by rw [← hmm, ← hre, sh_length]; omega
                have HRg : Held (RdN wr Gx .u8 a1 mm rr) := ⟨by
                  rw [← hmm, ← hre]
                  unfold sh
                  have h := RdV.front hrd (k := min 5000 l) (by omega)
                  rw [Nat.mul_one] at h
                  unfold nums at h
                  rw [← List.map_take] at h
                  have e : (lg.recs.getD kk []).take (min 5000 l) = (lg.recs.getD kk []).take 5000 := by rw [← hl, List.take_eq_take_iff]; omega
                  rw [e] at h
                  have e2 : ((lg.recs.getD kk []).take 5000).length = min 5000 l := by rw [List.length_take, hl]
                  rw [e2]
                  exact RdV.mono h hhb⟩
                have hml : mm = min 5000 l := by rw [← hmm, ← hre, sh_length, hl]
                have Hml := Held.mk hml
                clear hre hl hBk hrd hq3 hFrm hmem hhb hc5 HI HFd hmm hml
                go_upto_if 95 with fail
                go_cut [13] (fun rv wx => rv = .slice a1 mm c1 ∧ wx = wr)
                case first =>
                  by_cases h5 : 5000 < l
                  · have h5I : (5000 : Int) < (l : Int) := by omega
                    have hcut5 : ∀ W, (Instr.slice 23 (.slice a1 l c1) none (some (.int .i64 5000)) none).run Try.prog W = .ok (.slice a1 5000 c1) W := fun W => cutH (m := 5000) (by omega) W
                    go_wp2_with fail
                    go_meet
                    exact ⟨by rw [show mm = 5000 from by have := Hml.out; omega], rfl⟩
                  · have h5I : ¬ (5000 : Int) < (l : Int) := by omega
                    go_wp2_with fail
                    go_meet
                    exact ⟨by rw [show mm = l from by have := Hml.out; omega], rfl⟩
                case rest =>
                  obtain ⟨rfl, hwx⟩ := hcut
                  rw [hwx]
                  clear hcl hc1 hlm hwx
                  have HAp := Held.mk (kp_append w.heap.size J P Gx s3 j3 _ all3 _ a1 mm c1 rr wr HK.out (hst.bd.good (by omega)) HRg.out HBr.out (by omega) (by have := hst.few; have := hst.last; omega))
                  rcases hst.app rr (by have := HM.out; omega) HBr.out with ⟨ea, st, hf⟩ | ⟨T, v, ea, md, hf⟩
                  · rw [Hq3.out] at ea
                    simp only [ea] at HAp
                    have HSt4 := Held.mk st
                    have Hf4 := Held.mk hf
                    clear ea st hf hst
                    generalize (appS s3 j3 rr).1 = s4 at *
                    generalize (appS s3 j3 rr).2.1 = j4 at *
                    have hqq : (((q3 : Int) + 1) != ((q3 : Int) + 1)) = false := by simp
                    go_wp2_with fail
                    refine HAp.out.mono ?_
                    rintro e w7 ⟨rfl, hK4, hG4⟩
                    have hbx : Below w7.heap.size w7 (w7.alloc (.cells #[.slice a1 mm c1] 23)) := (Below.refl _ _).alloc (Nat.le_refl _) _
                    have hGx : Kg Gx wr (w7.alloc (.cells #[.slice a1 mm c1] 23)) := hG4.trans (Keep.of_below hbx _)
                    have hsz : w.heap.size ≤ (w7.alloc (.cells #[.slice a1 mm c1] 23)).heap.size := Nat.le_trans hFs.out hGx.size
                    have hr1 : RdN (w7.alloc (.cells #[.slice a1 mm c1] 23)) Gx .u8 a1 rr.length rr := by
                      rw [HM.out]
                      exact RdN.keep HRg.out (show Keep (fun k => ¬ Gx k) wr (w7.alloc (.cells #[.slice a1 mm c1] 23)) from hGx) (fun k h1 h2 => h2 h1)
                    have hc1' : rr.length ≤ c1 := by rw [HM.out]; exact hmc.out
                    have hK4' := hK4.below hbx
                    obtain ⟨cells, hcs, hnx⟩ := kp_push hK4' hsz hr1 hc1'
                    rw [HM.out, Hq3.out] at hnx
                    rw [Hq3.out] at hcs
                    have Hcs := Held.mk hcs
                    have Hnx := Held.mk hnx
                    have HG4 := Held.mk hGx
                    have HRd := Held.mk (rd_new w7 [.slice a1 mm c1] 1 23 rfl)
                    have HC3 : Held (((q3 + 1) + (q3 + 1) / 4 + 192) * 24 ≤ 281474976710656) := ⟨by omega⟩
                    have HC4 := Held.mk hsz
                    clear hr1 hc1' hK4' hK4 hG4 hbx hGx hsz hcs hnx HAp
                    go_wp2_with ((at_builtin; (refine Mem.appS _ w.heap.size rfl (.tmp 104) (.tmp 106) 22 23 (.slice none 0 0) 1 24 rfl Try.underlying22 info_rows rfl (by decide) (by decide) _ q3 cells rfl Hcs.out (fun _ => True) (some ⟨w7.heap.size, 0, none⟩) 1 1 [.slice a1 mm c1] rfl HRd.out (by simp [Value.oneCell']) HC3.out HC4.out ?_)); (intro v7 w8 ho3 hg3 hat3); (have HPk := Held.mk (Hnx.out _ _ ho3 hg3 hat3)); (have HPk1 := Held.mk HPk.out.1); (have HXp := Held.mk (HXk.out.keep (HG4.out.trans (HPk.out.2)) (fun h => h HGX.out))); (have x1 := HXp.out.cell 1); (obtain ⟨A7, c7, rfl, -⟩ := own_slc ho3); (clear ho3 hg3 hat3 Hnx Hcs))
                    · have el : (((all3 ++ [rr]).length : Nat) : Int) = (q3 : Int) + 1 := by rw [List.length_append, List.length_singleton, Hq3.out]; omega
                      have eln : (all3 ++ [rr]).length = q3 + 1 := by rw [List.length_append, List.length_singleton, Hq3.out]
                      have HSy := Held.mk (kp_sync w.heap.size J P Gx s4 j4 _ (all3 ++ [rr]) w8 HPk1.out (HSt4.out.bd.good (by have := Hf4.out; omega)))
                      rcases HSt4.out.sync with ⟨ea, st, hf⟩ | ⟨T, v, ea, md, hf⟩
                      · rw [el] at ea
                        rw [eln] at st
                        simp only [ea] at HSy
                        have HSt9 := Held.mk st
                        have Hf9 := Held.mk hf
                        clear ea st hf el eln
                        generalize (jsyncS s4 j4).1 = s9 at *
                        generalize (jsyncS s4 j4).2.1 = j9 at *
                        go_wp2_with fail
                        refine HSy.out.mono ?_
                        rintro e w9 ⟨rfl, hK9, hG9⟩
                        have HK9 := Held.mk hK9
                        have HG9 := Held.mk hG9
                        clear hK9 hG9 HSy
                        go_wp2_with fail
                        go_roundw
                        case rel => exact ⟨kk + 1, s9, j9, all3 ++ [rr], q3 + 1, false, by go_num, by go_num, rfl, by omega, HK9, ⟨HSt9.out⟩, ⟨by show s9.failed ≤ 2 * k; rw [Hf9.out, Hf4.out]; exact hf3⟩, ⟨HG.out.trans (HG4.out.trans (HPk.out.2.trans HG9.out))⟩⟩
                        case measure => simp [intOf]; omega
                      · simp only [ea] at HSy
                        have HMd9 := Held.mk md
                        have Hf9 := Held.mk hf
                        clear ea md hf el eln
                        generalize (jsyncS s4 j4).1 = s9 at *
                        generalize (jsyncS s4 j4).2.1 = j9 at *
                        go_wp2_with fail
                        refine HSy.out.mono ?_
                        rintro e w9 ⟨rfl, hK9, hG9⟩
                        have HK9 := Held.mk hK9
                        have HG9 := Held.mk hG9
                        clear hK9 hG9 HSy
                        go_wp2_with fail
                        go_roundw
                        case rel => exact ⟨kk + 1, s9, j9, all3 ++ [rr], l3, true, by go_num, rfl, rfl, by omega, HK9, ⟨HMd9.out⟩, ⟨by show s9.failed ≤ 2 * k + 1; have := Hf9.out; rw [Hf4.out] at this; omega⟩, ⟨HG.out.trans (HG4.out.trans (HPk.out.2.trans HG9.out))⟩⟩
                        case measure => simp [intOf]; omega
                    · go_roundw
                      case rel => exact ⟨kk + 1, s4, j4, all3 ++ [rr], l3, false, by go_num, rfl, rfl, by omega, HPk1, ⟨HSt4.out⟩, ⟨by show s4.failed ≤ 2 * k; rw [Hf4.out]; exact hf3⟩, ⟨HG.out.trans (HG4.out.trans HPk.out.2)⟩⟩
                      case measure => simp [intOf]; omega
                  · simp only [ea] at HAp
                    have HMd := Held.mk md
                    have Hf4 := Held.mk hf
                    clear ea md hf hst
                    generalize (appS s3 j3 rr).1 = s4 at *
                    generalize (appS s3 j3 rr).2.1 = j4 at *
                    go_wp2_with fail
                    refine HAp.out.mono ?_
                    rintro e w7 ⟨rfl, hK4, hG4⟩
                    have hbx : Below w7.heap.size w7 (w7.alloc (.cells #[.slice a1 mm c1] 23)) := (Below.refl _ _).alloc (Nat.le_refl _) _
                    have hGx : Kg Gx wr (w7.alloc (.cells #[.slice a1 mm c1] 23)) := hG4.trans (Keep.of_below hbx _)
                    have hsz : w.heap.size ≤ (w7.alloc (.cells #[.slice a1 mm c1] 23)).heap.size := Nat.le_trans hFs.out hGx.size
                    have hr1 : RdN (w7.alloc (.cells #[.slice a1 mm c1] 23)) Gx .u8 a1 rr.length rr := by
                      rw [HM.out]
                      exact RdN.keep HRg.out (show Keep (fun k => ¬ Gx k) wr (w7.alloc (.cells #[.slice a1 mm c1] 23)) from hGx) (fun k h1 h2 => h2 h1)
                    have hc1' : rr.length ≤ c1 := by rw [HM.out]; exact hmc.out
                    have hK4' := hK4.below hbx
                    obtain ⟨cells, hcs, hnx⟩ := kp_push hK4' hsz hr1 hc1'
                    rw [HM.out, Hq3.out] at hnx
                    rw [Hq3.out] at hcs
                    have Hcs := Held.mk hcs
                    have Hnx := Held.mk hnx
                    have HG4 := Held.mk hGx
                    have HRd := Held.mk (rd_new w7 [.slice a1 mm c1] 1 23 rfl)
                    have HC3 : Held (((q3 + 1) + (q3 + 1) / 4 + 192) * 24 ≤ 281474976710656) := ⟨by omega⟩
                    have HC4 := Held.mk hsz
                    clear hr1 hc1' hK4' hK4 hG4 hbx hGx hsz hcs hnx HAp
                    go_wp2_with ((at_builtin; (refine Mem.appS _ w.heap.size rfl (.tmp 104) (.tmp 106) 22 23 (.slice none 0 0) 1 24 rfl Try.underlying22 info_rows rfl (by decide) (by decide) _ q3 cells rfl Hcs.out (fun _ => True) (some ⟨w7.heap.size, 0, none⟩) 1 1 [.slice a1 mm c1] rfl HRd.out (by simp [Value.oneCell']) HC3.out HC4.out ?_)); (intro v7 w8 ho3 hg3 hat3); (have HPk := Held.mk (Hnx.out _ _ ho3 hg3 hat3)); (have HPk1 := Held.mk HPk.out.1); (obtain ⟨A7, c7, rfl, -⟩ := own_slc ho3); (clear ho3 hg3 hat3 Hnx Hcs))
                    go_roundw
                    case rel => exact ⟨kk + 1, s4, j4, all3 ++ [rr], l3, true, by go_num, rfl, rfl, by omega, HPk1, HMd, ⟨by have := Hf4.out; show s4.failed ≤ 2 * k + 1; omega⟩, ⟨HG.out.trans (HG4.out.trans HPk.out.2)⟩⟩
                    case measure => simp [intOf]; omega
            · have hkrI : ¬ (kk : Int) < (nr : Int) := by omega
              cases dd with
              | true =>
                have HXk := Held.mk (HX.out.keep HG.out (fun h => h HGX.out))
                have x0 := HXk.out.cell 0
                go_wp2_with fail
                go_meet
                exact ⟨s3, j3, all3, l3, true, rfl, rfl, HK, HI, HFd, HG⟩
              | false =>
                have HXk := Held.mk (HX.out.keep HG.out (fun h => h HGX.out))
                have x0 := HXk.out.cell 0
                go_wp2_with fail
                go_meet
                exact ⟨s3, j3, all3, l3, false, rfl, rfl, HK, HI, HFd, HG⟩
        case rest =>
          obtain ⟨s3, j3, all3, l3, dd, rfl, rfl, HK8, HI8, HF8, HG8⟩ := hcut
          have hAl8 := HK8.out.dp.slc
          obtain ⟨A8, c8, rfl, hc8⟩ := hAl8
          obtain ⟨q8, hq8⟩ : ∃ q8, all3.length = q8 := ⟨_, rfl⟩
          have Hq8 := Held.mk hq8
          rw [hq8] at HK8 hc8 ⊢
          have HX8 := Held.mk (HX.out.keep HG8.out (fun h => h HGX.out))
          have x3 := HX8.out.cell 3
          have HF8w : Held (From w.heap.size w wc) := ⟨HF6.out.trans (HG8.out.from_ HK8.out.hb)⟩
          clear hq8 hc8
          cases dd with
          | true =>
            have HMd : Held (Mid s3 all3 l3) := ⟨HI8.out⟩
            have hf9 : s3.failed ≤ 2 * k + 1 := HF8.out
            have HCr := Held.mk (kp_crash w.heap.size J P Gx s3 j3 _ all3 lg.keep wc HK8.out (HMd.out.bd.good (by omega)))
            go_wp2_with fail
            refine HCr.out.mono ?_
            rintro e wd ⟨rfl, hKd, hGd⟩
            have HRv := Held.mk (kp_revive w.heap.size J P Gx _ j3 _ all3 wd hKd)
            have HGd := Held.mk hGd
            clear hKd hGd HCr
            go_wp2_with fail
            refine HRv.out.mono ?_
            rintro e we ⟨rfl, hKe, hGe⟩
            have HDe := Held.mk hKe.dp
            have HFe : Held (From w.heap.size w we) := ⟨HF8w.out.trans ((HGd.out.trans hGe).from_ HK8.out.hb)⟩
            clear hKe hGe HRv
            go_wp2_with fail
            go_roundw
            case rel => exact ⟨k + 1, l3, _, all3, Gx, by go_num, rfl, by omega, HDe, ⟨(HMd.out.crash lg.keep).1⟩, ⟨by have := (HMd.out.crash lg.keep).2.1; omega⟩, HFe⟩
            case measure => simp [intOf]; omega
          | false =>
            have HSt8 : Held (Str s3 j3 all3 l3) := ⟨HI8.out⟩
            have hf8 : s3.failed ≤ 2 * k := HF8.out
            by_cases h7 : lg.keep = -7
            · have h7I : (lg.keep == -7) = true := by simpa using h7
              have HSy := Held.mk (kp_sync w.heap.size J P Gx s3 j3 _ all3 wc HK8.out (HSt8.out.bd.good (by omega)))
              rcases HSt8.out.sync with ⟨ea, st, hf⟩ | ⟨T, v, ea, md, hf⟩
              · rw [Hq8.out] at ea
                simp only [ea] at HSy
                have HSt9 := Held.mk st
                have Hf9 := Held.mk hf
                clear ea st hf h7
                generalize (jsyncS s3 j3).1 = s9 at *
                generalize (jsyncS s3 j3).2.1 = j9 at *
                go_wp2_with fail
                refine HSy.out.mono ?_
                rintro e w9 ⟨rfl, hK9, hG9⟩
                have HRv := Held.mk (kp_revive w.heap.size J P Gx s9 j9 _ all3 w9 hK9)
                have HG9 := Held.mk hG9
                clear hK9 hG9 HSy
                go_wp2_with fail
                refine HRv.out.mono ?_
                rintro e wa ⟨rfl, hKa, hGa⟩
                have HDa := Held.mk hKa.dp
                have HFa : Held (From w.heap.size w wa) := ⟨HF8w.out.trans ((HG9.out.trans hGa).from_ HK8.out.hb)⟩
                clear hKa hGa HRv
                go_wp2_with fail
                go_roundw
                case rel => exact ⟨k + 1, q8, reviveS s9, all3, Gx, by go_num, rfl, by omega, HDa, ⟨by have := HSt9.out.revive.1; rw [Hq8.out] at this; exact this⟩, ⟨by rw [HSt9.out.revive.2, Hf9.out]; omega⟩, HFa⟩
                case measure => simp [intOf]; omega
              · simp only [ea] at HSy
                have HMd := Held.mk md
                have hf9 : (jsyncS s3 j3).1.failed ≤ 2 * k + 1 := by omega
                clear ea md hf h7
                generalize (jsyncS s3 j3).1 = s9 at *
                generalize (jsyncS s3 j3).2.1 = j9 at *
                go_wp2_with fail
                refine HSy.out.mono ?_
                rintro e w9 ⟨rfl, hK9, hG9⟩
                have HK9 := Held.mk hK9
                have HX9 := Held.mk (HX8.out.keep hG9 (fun h => h HGX.out))
                have y3 := HX9.out.cell 3
                have HF9w : Held (From w.heap.size w w9) := ⟨HF8w.out.trans (hG9.from_ HK8.out.hb)⟩
                clear hK9 hG9 HSy
                have HCr := Held.mk (kp_crash w.heap.size J P Gx s9 j9 _ all3 lg.keep w9 HK9.out (HMd.out.bd.good (by omega)))
                go_wp2_with fail
                refine HCr.out.mono ?_
                rintro e wd ⟨rfl, hKd, hGd⟩
                have HRv := Held.mk (kp_revive w.heap.size J P Gx _ j9 _ all3 wd hKd)
                have HGd := Held.mk hGd
                clear hKd hGd HCr
                go_wp2_with fail
                refine HRv.out.mono ?_
                rintro e we ⟨rfl, hKe, hGe⟩
                have HDe := Held.mk hKe.dp
                have HFe : Held (From w.heap.size w we) := ⟨HF9w.out.trans ((HGd.out.trans hGe).from_ HK8.out.hb)⟩
                clear hKe hGe HRv
                go_wp2_with fail
                go_roundw
                case rel => exact ⟨k + 1, l3, _, all3, Gx, by go_num, rfl, by omega, HDe, ⟨(HMd.out.crash lg.keep).1⟩, ⟨by have := (HMd.out.crash lg.keep).2.1; omega⟩, HFe⟩
                case measure => simp [intOf]; omega
            · have h7I : (lg.keep == -7) = false := by simpa using h7
              have HMd : Held (Mid s3 all3 l3) := ⟨HSt8.out.mid⟩
              have hf9 : s3.failed ≤ 2 * k + 1 := by omega
              have HCr := Held.mk (kp_crash w.heap.size J P Gx s3 j3 _ all3 lg.keep wc HK8.out (HMd.out.bd.good (by omega)))
              go_wp2_with fail
              refine HCr.out.mono ?_
              rintro e wd ⟨rfl, hKd, hGd⟩
              have HRv := Held.mk (kp_revive w.heap.size J P Gx _ j3 _ all3 wd hKd)
              have HGd := Held.mk hGd
              clear hKd hGd HCr
              go_wp2_with fail
              refine HRv.out.mono ?_
              rintro e we ⟨rfl, hKe, hGe⟩
              have HDe := Held.mk hKe.dp
              have HFe : Held (From w.heap.size w we) := ⟨HF8w.out.trans ((HGd.out.trans hGe).from_ HK8.out.hb)⟩
              clear hKe hGe HRv
              go_wp2_with fail
              go_roundw
              case rel => exact ⟨k + 1, l3, _, all3, Gx, by go_num, rfl, by omega, HDe, ⟨(HMd.out.crash lg.keep).1⟩, ⟨by have := (HMd.out.crash lg.keep).2.1; omega⟩, HFe⟩
              case measure => simp [intOf]; omega
    · have hkI : ¬ (k : Int) < (n : Int) := by omega
      go_wp2_with fail
      refine HOp.out.mono ?_
      rintro e w3 ⟨J, vg, rfl, hR3, hK3, hG3⟩
      obtain ⟨Ag, cg, rfl, hcg, hrg⟩ := hR3.rd
      rw [Hlen0.out] at hrg hcg hR3 ⊢
      have HF3 : Held (From w.heap.size w w3) := ⟨HFr.out.trans (hG3.from_ HD.out.hb)⟩
      have HK3 := Held.mk hK3
      have hAl : RdR w3 (fun _ => True) A4 q all := by obtain ⟨F, _, _, _, h⟩ := hK3.ex; exact h.rd Hq.out
      have HBg := Held.mk (begins_any _ _ Ag A4 j0 q cg c4 l got all w3 hrg hAl hc4 (by omega) Hall.out hjq hj1 HGot.out.symm)
      have HR3 := Held.mk hR3
      clear hK3 hG3 hAl HOp hrg hcg hR3
      go_wp2_with fail
      refine HBg.out.mono ?_
      rintro e w4 ⟨rfl, m4, rfl⟩
      have hB4 : Below w3.heap.size w3 (w3.drewN m4) := below_drewN (Below.refl _ _) m4
      have HK4 := Held.mk (HK3.out.below hB4)
      have HR4 := Held.mk (HR3.out.below hB4)
      have HF4 : Held (From w.heap.size w (w3.drewN m4)) := ⟨HF3.out.trans (Keep.of_below hB4 _)⟩
      clear hB4 HK3 HF3 HBg HR3
      generalize w3.drewN m4 = w4 at *
      have HBy : Held (Calls Try.prog 13 #[.pointer (some ⟨P, 0, none⟩)] w4 fun e w' => ∃ v, e = .returned (.tuple #[v, .nilIface]) ∧ OwnC w' w4.heap.size v (frs 0 got) ∧ Below w4.heap.size w4 w') := ⟨by
        obtain ⟨F, hDk, _⟩ := HK4.out.ex
        have h := bytes_any F P _ w4 hDk (HStr.out.bd.good (by have := Hf0.out; have := HFl.out; omega))
        rw [HStr.out.dead, HStr.out.B] at h
        simp only [Bool.false_eq_true, if_false] at h
        exact h⟩
      have hfb : (frs 0 got).length ≤ 67108864 := by have := HStr.out.bd.lb; rw [HStr.out.B] at this; exact this
      have hscan := scan_frs got Hrec.out (by rw [Hlen0.out]; omega)
      have hbyt : Byt (frs 0 got) := Byt.frs Hrec.out (by rw [Hlen0.out]; omega)
      obtain ⟨fb, hfbe⟩ : ∃ fb, frs 0 got = fb := ⟨_, rfl⟩
      rw [hfbe] at HBy hfb hscan hbyt
      obtain ⟨N, hN⟩ : ∃ N, fb.length = N := ⟨_, rfl⟩
      rw [hN] at hfb hscan
      have HNl := Held.mk hN
      have HSc0 := Held.mk hscan
      have HByt := Held.mk hbyt
      have hNN : ((N : Int) == N) = true := by simp
      clear hfbe hN hscan hbyt
      go_wp2_with fail
      refine HBy.out.mono ?_
      rintro e w5 ⟨v5, rfl, ⟨ho5, A5, rfl⟩, hb5⟩
      obtain ⟨A5', c5, e5, hc5, hr5⟩ := RdN.of_own ho5
      simp only [Value.slice.injEq] at e5
      obtain ⟨rfl, -, rfl⟩ := e5
      rw [HNl.out] at hr5 ⊢
      have HF5 : Held (From w.heap.size w w5) := ⟨HF4.out.trans (Keep.of_below hb5 _)⟩
      have HR5 := Held.mk (HR4.out.below hb5)
      have HScn := Held.mk (scan_any _ A5 N N fb w5 hr5 (Nat.le_refl _) (by omega) HByt.out)
      rw [HSc0.out] at HScn
      simp only at HScn
      rw [show (Jr.w Er.ok).enc = Value.nilIface from rfl] at HScn
      clear ho5 hb5 hc5 hr5 HBy HR4 HF4 HK4
      go_wp2_with fail
      refine HScn.out.mono ?_
      rintro e w6 ⟨v6, rfl, hR6, hb6⟩
      have HF6 : Held (From w.heap.size w w6) := ⟨HF5.out.trans (Keep.of_below hb6 _)⟩
      obtain ⟨A6, d6, rfl, hd6, r6⟩ := hR6.rd
      obtain ⟨A7, d7, e7, hd7, r7⟩ := (HR5.out.below hb6).rd
      simp only [Value.slice.injEq] at e7
      obtain ⟨rfl, -, rfl⟩ := e7
      rw [Hlen0.out] at r6 r7 ⊢
      have hrl : ∀ r ∈ got, r.length ≤ 9223372036854775807 := fun r h => by have := (Hrec.out r h).1; omega
      have HSm := Held.mk (samerec_any _ _ A6 Ag j0 j0 d6 cg got got w6 r6 r7 (by omega) (by omega) hrl hrl)
      rw [decide_eq_true rfl] at HSm
      clear hR6 hb6 hd6 r6 hd7 r7 hrl HScn HR5 HF5
      go_wp2_with fail
      refine HSm.out.mono ?_
      rintro e w7 ⟨rfl, m7, rfl⟩
      go_wp2_with fail
      go_ret
      exact ⟨rfl, (HF6.out.trans (Keep.of_below (below_drewN (Below.refl _ _) m7) _)).to_below⟩
end Jrn
end Go.Proofs.Ytihgmlcmdpmhhaa
