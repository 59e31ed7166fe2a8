/- Unframe: what it answers. -/
import Derived.Test.YtihgmlcmdpmhhaaUfm
namespace Go.Proofs.Ytihgmlcmdpmhhaa
set_option linter.unusedVariables false
set_option linter.unusedSimpArgs false
namespace Wire
open Go.RowKit Mem Apn
set_option maxHeartbeats 600000 in
set_option maxRecDepth 100000 in
theorem unframe_any (ok : Nat → Prop) (A : Option Addr) (n c : Nat) (b : List Int) (w : World) (hr : RdN w ok .u8 A n b) (hc : n ≤ c) (hl : n ≤ 281474976710656) (hb : Byt b) :
    Calls Try.prog 28 #[.slice A n c] w fun e w' => ∃ v, e = .returned (.tuple #[.int .u64 (unf b).1, v, .int .i64 (unf b).2.2.1, (unf b).2.2.2.enc]) ∧ OwnN w' w.heap.size 5 .u8 v (unf b).2.1 ∧ Below w.heap.size w w' := by
  have hlen := hr.len
  obtain ⟨sz, m, e1, he⟩ : ∃ sz m e, num b = (sz, m, e) := ⟨_, _, _, rfl⟩
  have H1 := Held.mk (number_wide ok A n c b w hr hc hl hb)
  have hm := num_le b
  have hsz := num_U64 b hb
  rw [he] at H1 hm hsz
  simp only at hm hsz
  have bad1 : ∀ (T : TypeId) (v : Value), e1.enc = .iface T v → e1 ≠ .ok → Calls Try.prog 28 #[.slice A n c] w fun e w' => ∃ v, e = .returned (.tuple #[.int .u64 (unf b).1, v, .int .i64 (unf b).2.2.1, (unf b).2.2.2.enc]) ∧ OwnN w' w.heap.size 5 .u8 v (unf b).2.1 ∧ Below w.heap.size w w' := by
    intro T v hT hne
    rw [unf_bad1 he hne]
    unfold numV at H1
    simp only [hT] at H1 ⊢
    clear hlen hr hb he hm hsz hne hT
    go_enter Try.func28, Try.ntmps28
    go_wp2_with fail
    refine H1.out.mono ?_
    rintro e w1 ⟨rfl, rfl⟩
    go_wp2
    (try simp only [Exit.inBlock, Exit.then])
    refine bodyPost_ret (results_tmp4 rfl _ _ _) rfl ?_
    exact ⟨_, rfl, own_nil _ _ _ _, Below.refl _ _⟩
  cases e1 with
  | no k => exact bad1 _ _ rfl (by simp)
  | ref s k => exact bad1 _ _ rfl (by simp)
  | ok =>
    clear bad1
    have hszI : (0 : Int) ≤ sz := by omega
    unfold numV Er.enc at H1
    simp only at H1
    by_cases hs : 65536 < sz
    · rw [unf_many he hs]
      have hsI : (65536 : Int) < (sz : Int) := by omega
      clear hlen hr hb he hm hsz hs
      go_enter Try.func28, Try.ntmps28
      go_wp2_with fail
      refine H1.out.mono ?_
      rintro e w1 ⟨rfl, rfl⟩
      go_wp2
      (try simp only [Exit.inBlock, Exit.then])
      refine bodyPost_ret (results_tmp4 rfl _ _ _) rfl ?_
      exact ⟨_, rfl, own_nil _ _ _ _, Below.refl _ _⟩
    · have hsI : (sz : Int) ≤ 65536 := by omega
      obtain ⟨A1, n1, c1, hn1, hle1, hrun1, hrd1⟩ := cutF (P := Try.prog) 23 5 .i64 Try.underlying23 info_size A n c m (by omega) hc
      have hr1 : RdN w ok .u8 A1 n1 (b.drop m) := RdV.nums_drop (hrd1 w ok _ hr)
      obtain ⟨x, k, e2, he2⟩ : ∃ x k e, num (b.drop m) = (x, k, e) := ⟨_, _, _, rfl⟩
      have H2 := Held.mk (number_wide ok A1 n1 c1 (b.drop m) w hr1 hle1 (by have := hn1.out; omega) (hb.drop m))
      have hk := num_le (b.drop m)
      have hxU := num_U64 (b.drop m) (hb.drop m)
      rw [he2] at H2 hk hxU
      simp only [List.length_drop] at hk hxU
      have bad2 : ∀ (T : TypeId) (v : Value), e2.enc = .iface T v → e2 ≠ .ok → Calls Try.prog 28 #[.slice A n c] w fun e w' => ∃ v, e = .returned (.tuple #[.int .u64 (unf b).1, v, .int .i64 (unf b).2.2.1, (unf b).2.2.2.enc]) ∧ OwnN w' w.heap.size 5 .u8 v (unf b).2.1 ∧ Below w.heap.size w w' := by
        intro T v hT hne
        rw [unf_bad2 he hs he2 hne]
        unfold numV at H2
        simp only [hT] at H2 ⊢
        clear hlen hr hb he hm hsz hne hT hk hxU hr1 hrd1 hs he2
        go_enter Try.func28, Try.ntmps28
        go_wp2_with fail
        refine H1.out.mono ?_
        rintro e w1 ⟨rfl, rfl⟩
        go_wp2_with fail
        refine H2.out.mono ?_
        rintro e w1 ⟨rfl, rfl⟩
        go_wp2
        (try simp only [Exit.inBlock, Exit.then])
        refine bodyPost_ret (results_tmp4 rfl _ _ _) rfl ?_
        exact ⟨_, rfl, own_nil _ _ _ _, Below.refl _ _⟩
      cases e2 with
      | no k => exact bad2 _ _ rfl (by simp)
      | ref s k => exact bad2 _ _ rfl (by simp)
      | ok =>
        clear bad2
        unfold numV Er.enc at H2
        simp only at H2
        rw [unf_good he hs he2]
        have hw1 : IntKind.i64.wrap ((m : Int) + (k : Int)) = (m : Int) + (k : Int) := IntWalk.i64_in _ ⟨by omega, by omega⟩
        have hw2 : IntKind.i64.wrap ((m : Int) + (k : Int) + 4) = (m : Int) + (k : Int) + 4 := IntWalk.i64_in _ ⟨by omega, by omega⟩
        have hw3 : IntKind.i64.wrap ((n : Int) - ((m : Int) + (k : Int) + 4)) = (n : Int) - ((m : Int) + (k : Int) + 4) := IntWalk.i64_in _ ⟨by omega, by omega⟩
        have hw4 : IntKind.i64.wrap (sz : Int) = (sz : Int) := IntWalk.i64_in _ ⟨by omega, by omega⟩
        by_cases hsh : b.length < m + k + 4 + sz
        · rw [if_pos hsh]
          have hshI : (n : Int) - ((m : Int) + (k : Int) + 4) < (sz : Int) := by omega
          clear hlen hr hb he hm hsz hk hxU hr1 hrd1 hs he2 hsh
          go_enter Try.func28, Try.ntmps28
          go_wp2_with fail
          refine H1.out.mono ?_
          rintro e w1 ⟨rfl, rfl⟩
          go_wp2_with fail
          refine H2.out.mono ?_
          rintro e w1 ⟨rfl, rfl⟩
          go_wp2
          (try simp only [Exit.inBlock, Exit.then])
          refine bodyPost_ret (results_tmp4 rfl _ _ _) rfl ?_
          exact ⟨_, rfl, own_nil _ _ _ _, Below.refl _ _⟩
        · rw [if_neg hsh]
          have hk9 : k ≤ 9 := by
            obtain ⟨f1, _, f2, _⟩ := form_num (b.drop m) (hb.drop m) x k he2
            have := form_length x f1
            omega
          have hshI : ¬ (n : Int) - ((m : Int) + (k : Int) + 4) < (sz : Int) := by omega
          have hw5 : IntKind.i64.wrap ((m : Int) + (k : Int) + 4 + (sz : Int)) = (m : Int) + (k : Int) + 4 + (sz : Int) := IntWalk.i64_in _ ⟨by omega, by omega⟩
          obtain ⟨Ap, np, cp, hnp, hlep, hrunp, hrdp⟩ := cutM (P := Try.prog) 23 5 .i64 .i64 Try.underlying23 info_size A n c (m + k + 4) (m + k + 4 + sz) (by omega) (by omega) hc
          obtain ⟨Ak, nk, ck, hnk, hlek, hrunk, hrdk⟩ := cutM (P := Try.prog) 23 5 .i64 .i64 Try.underlying23 info_size A n c m (m + k) (by omega) (by omega) hc
          obtain ⟨Al, nl, cl, hnl, hlel, hrunl, hrdl⟩ := cutM (P := Try.prog) 23 5 .i64 .i64 Try.underlying23 info_size A n c (m + k) (m + k + 4) (by omega) (by omega) hc
          have e1 : ((m + k + 4 + sz : Nat) : Int) = (m : Int) + (k : Int) + 4 + (sz : Int) := by omega
          have e2 : ((m + k + 4 : Nat) : Int) = (m : Int) + (k : Int) + 4 := by omega
          have e3 : ((m + k : Nat) : Int) = (m : Int) + (k : Int) := by omega
          simp only [e1, e2, e3] at hrunp hrunk hrunl
          clear e1 e2 e3
          have hrlt := hr.lt (by decide)
          have HRp : Held (RdN w _ .u8 Ap np ((b.drop (m + k + 4)).take sz)) := ⟨by rw [← mid_eq]; exact RdV.nums_mid (hrdp w _ _ hrlt)⟩
          have HRk : Held (RdN w _ .u8 Ak nk ((b.drop m).take k)) := ⟨by rw [← mid_eq]; exact RdV.nums_mid (hrdk w _ _ hrlt)⟩
          have HRl : Held (RdN w _ .u8 Al nl ((b.drop (m + k)).take 4)) := ⟨by rw [← mid_eq]; exact RdV.nums_mid (hrdl w _ _ hrlt)⟩
          have HNp : Held (np ≤ 225179981368328) := ⟨by have := hnp.out; omega⟩
          have HNk : Held (nk ≤ 225179981368328) := ⟨by have := hnk.out; omega⟩
          have HNl : Held (nl ≤ 8) := ⟨by have := hnl.out; omega⟩
          have HBl := Held.mk ((hb.drop (m + k)).take 4)
          have HBx := Held.mk (((hb.drop m).take k).append ((hb.drop (m + k + 4)).take sz))
          have hpl : ((b.drop (m + k + 4)).take sz).length = sz := by rw [List.length_take, List.length_drop]; omega
          have hkl : ((b.drop m).take k).length = k := by rw [List.length_take, List.length_drop]; omega
          have hll : ((b.drop (m + k)).take 4).length = 4 := by rw [List.length_take, List.length_drop]; omega
          have HLc := Held.mk (crc_lt _ HBx.out)
          have HLl : Held (low ((b.drop (m + k)).take 4) < 4294967296) := ⟨by have := low_lt _ HBl.out; rw [hll] at this; exact this⟩
          have HPl := Held.mk hpl
          have HKl := Held.mk hkl
          have HC7 : Held ((((b.drop m).take k).length + ((b.drop (m + k + 4)).take sz).length + (((b.drop m).take k).length + ((b.drop (m + k + 4)).take sz).length) / 4 + 192) * 1 ≤ 281474976710656) := ⟨by rw [hpl, hkl]; omega⟩
          have HC8 : Held ((((b.drop m).take k) ++ ((b.drop (m + k + 4)).take sz)).length ≤ 140737488355328) := ⟨by rw [List.length_append, hpl, hkl]; omega⟩
          clear hr hb he hr1 hrd1 he2 hrdp hrdk hrdl hrlt hpl hkl hll hlen hsh hs
          generalize (b.drop (m + k + 4)).take sz = pl at *
          generalize (b.drop m).take k = ks at *
          generalize (b.drop (m + k)).take 4 = ls at *
          by_cases hq : crc (ks ++ pl) = low ls
          · rw [if_pos hq]
            refine (unframe_ok ok A Ap Ak Al A1 n c sz m x k np cp nk ck nl cl n1 c1 pl ks ls w H1 H2 hrun1 hrunp hrunk hrunl hszI hsI hlep hlek hw1 hw2 hw3 hw4 hw5 hshI HRp HRk HRl HNp HNk HNl HBl HBx HC7 HC8 hq HLc HLl).mono ?_
            rintro e w' ⟨v, rfl, h2, h3⟩
            exact ⟨v, by simp [Er.enc], h2, h3⟩
          · rw [if_neg hq]
            exact unframe_sum ok A Ap Ak Al A1 n c sz m x k np cp nk ck nl cl n1 c1 pl ks ls w H1 H2 hrun1 hrunp hrunk hrunl hszI hsI hlep hlek hw1 hw2 hw3 hw4 hw5 hshI HRp HRk HRl HNp HNk HNl HBl HBx HC7 HC8 hq HLc HLl
end Wire
end Go.Proofs.Ytihgmlcmdpmhhaa
