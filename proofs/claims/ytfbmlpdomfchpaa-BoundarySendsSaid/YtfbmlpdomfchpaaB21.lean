/- Request. -/
import Derived.WalkKit
import Derived.LoopTactic
import Derived.Outline
import Derived.Lib.Hide
import Derived.StillTailTactics
import Derived.Deep.QuietTactic
import Derived.BigQuiet
import Derived.Deep.RegionHeld3
import Derived.Test.YtfbmlpdomfchpaaB10
import Derived.Test.YtfbmlpdomfchpaaJBd
import Derived.Test.YtfbmlpdomfchpaaB20
import Derived.Test.YtfbmlpdomfchpaaE7
namespace Go.Proofs.Ytfbmlpdomfchpaa
open Go.RowKit
set_option linter.unusedVariables false
set_option linter.unusedSimpArgs false

/-- A message in a block of its own. -/
def PtpBlk (w : World) (g : Nat) (p : Ptp) : Prop := w.heap[g]? = some (.cells p.cells.toArray 42 (0, 0))
theorem setList_ptp (q p : Ptp) : setList q.cells.toArray 0 p.cells = p.cells.toArray := by simp [setList, Ptp.cells]
theorem PtpBlk.range {w : World} {g : Nat} {p : Ptp} (h : PtpBlk w g p) : w.rangeAt g 0 p.cells := fun j v hv => by
  rw [Nat.zero_add, cell_of_row w g j _ _ (0, 0) h, ← hv]
  simp
theorem PtpBlk.lt {w : World} {g : Nat} {p : Ptp} (h : PtpBlk w g p) : g < w.heap.size := (Array.getElem?_eq_some_iff.1 h).1
theorem PtpBlk.there {w : World} {g : Nat} {p : Ptp} (h : PtpBlk w g p) : w.there g 0 21 := fun j hj => ⟨by rw [Nat.zero_add, cell_of_row w g j _ _ (0, 0) h]; simp [Ptp.cells]; omega, frozen_of_row w g _ _ _ h⟩
theorem PtpBlk.keep {M : Nat → Prop} {w w' : World} {g : Nat} {p : Ptp} (h : PtpBlk w g p) (k : Keep M w w') (hM : ¬ M g) : PtpBlk w' g p := (k.block g h.lt hM).trans h
theorem PtpBlk.below {w w' : World} {g : Nat} {p : Ptp} (h : PtpBlk w g p) (k : Below w.heap.size w w') : PtpBlk w' g p := (k.block g h.lt).trans h
theorem PtpBlk.store {w : World} {g : Nat} {q : Ptp} (h : PtpBlk w g q) (p : Ptp) : PtpBlk (w.setCells g 0 p.cells) g p := by
  show (w.setCells g 0 p.cells).heap[g]? = _
  rw [heap_sets p.cells 0 w _ h, setList_ptp]
theorem store_ptp_k {ops : Array Oper} {rest : List Oper} {op : Oper} {a : Act} {w : World} {Q : Exit → Act → World → Prop} {g : Nat} {q p : Ptp} (ht : PtpBlk w g q) (x y : Operand) (hw : Region.wanted op (yielded ops a.tmps) = true)
    (ho : op.op = .store 42 x y) (hx : a.eval x = .pointer (some ⟨g, 0, none⟩)) (hy : a.eval y = p.v) (k : ∀ w', Hid (PtpBlk w' g p ∧ Touch g w w') → wpList Try.prog ops Q rest (a.put op.dst undef) w') :
    wpList Try.prog ops Q (op :: rest) a w :=
  BigFrame.wpList_want hw fun K hK => wp_store_mid _ x y ho g 0 p.cells.toArray hx hy ht.there infoPtp (ptp_one p) (hK _ _ (k _ ⟨ht.store p, Touch.sets p.cells 0 w (Touch.refl g w)⟩))
theorem Run0.port2 {w u : World} {base kb mb n : Nat} {sps : List Nat} {ft : Nat → Nat → Prop} {k k0 : Ck} (h : Run0 w base kb mb sps ft n u k) (h0 : CkIs w base kb k0 mb sps ft) (hn : k0.ports.length = n) {i sp : Nat} {p : Pst} (hp : k.ports[i]? = some p) (hsp : sps[i]? = some sp) :
    ∃ rb xb lv hs, PortIs u base sp p rb xb lv hs ∧ (∀ g, footOf sp rb xb lv hs g → g < w.heap.size ∧ g ≠ kb) ∧ ∀ (M : Nat → Prop) (u' : World) (p' : Pst), Keep M u u' → (∀ g, M g → footOf sp rb xb lv hs g ∨ (w.heap.size ≤ g)) → PortIs u' base sp p' rb xb lv hs → Run0 w base kb mb sps ft n u' { k with ports := k.ports.set i p' } := by
  obtain ⟨ft', hC, hf⟩ := h.ex
  obtain ⟨rb, xb, lv, hs, hP, hfo⟩ := hC.ports i p sp hp hsp
  have hi := (List.getElem?_eq_some_iff.1 hp).1
  have hin : i < n := by rw [← h.num]; exact hi
  have hfl : ∀ g, footOf sp rb xb lv hs g → ckFoot kb mb n ft g := fun g hg => .inr (.inr ⟨i, hin, hf i g ((hfo g).2 hg)⟩)
  refine ⟨rb, xb, lv, hs, hP, fun g hg => ⟨(h0.lt g (by rw [hn]; exact hfl g hg)).2, fun e => (hC.out i hi).1 ((hfo kb).2 (by rw [← e]; exact hg))⟩, fun M u' p' hk hM hP' => ?_⟩
  have hlow : ∀ g, ckFoot kb mb k.ports.length ft' g → g < w.heap.size := fun g hg => by
    refine (h0.lt g ?_).2
    rcases hg with e | e | ⟨j, hj, e⟩
    · exact .inl e
    · exact .inr (.inl e)
    · exact .inr (.inr ⟨j, by rw [hn, ← h.num]; exact hj, hf j g e⟩)
  -- the blocks of M that are not the port's are none of the clock's
  have hk2 : ∀ g, g < u.heap.size → ¬ footOf sp rb xb lv hs g → ckFoot kb mb k.ports.length ft' g → u'.heap[g]? = u.heap[g]? := fun g hg hno hck => hk.block g hg (fun hm => by
    rcases hM g hm with h1 | h1
    · exact hno h1
    · have := hlow g hck; omega)
  have hkeep : ∀ (j : Nat) (q : Pst) (sq : Nat), j ≠ i → k.ports[j]? = some q → sps[j]? = some sq → PortAt u' base sq q (ft' j) := fun j q sq hji hq hsq => by
    refine (hC.ports j q sq hq hsq).keep hk (fun g hg hm => ?_)
    have hjl := (List.getElem?_eq_some_iff.1 hq).1
    rcases hM g hg with h1 | h1
    · exact hC.apart i j g hi hjl (fun e => hji e.symm) ((hfo g).2 h1) hm
    · have := hlow g (.inr (.inr ⟨j, hjl, hm⟩)); omega
  refine ⟨⟨ft', ⟨?_, ?_, by simpa using hC.len, ?_, ?_, ?_, hC.ne, hC.kge, hC.mge⟩, hf⟩, h.keep.trans hk (fun g hg => ?_), by simpa using h.num⟩
  · exact (hk2 kb (hC.lt kb (.inl rfl)).2 (fun hm => (hC.out i hi).1 ((hfo kb).2 hm)) (.inl rfl)).trans hC.head
  · exact (hk2 mb (hC.lt mb (.inr (.inl rfl))).2 (fun hm => (hC.out i hi).2 ((hfo mb).2 hm)) (.inr (.inl rfl))).trans hC.map
  · intro j q sq h1 h2
    have h1 : (k.ports.set i p')[j]? = some q := h1
    by_cases e : j = i
    · subst e
      rw [List.getElem?_set_self hi] at h1
      injection h1 with h1
      subst h1
      rw [hsp] at h2
      injection h2 with h2
      subst h2
      exact ⟨rb, xb, lv, hs, hP', hfo⟩
    · rw [List.getElem?_set_ne (fun h => e h.symm)] at h1
      exact hkeep j q sq e h1 h2
  · intro a b g ha hb
    exact hC.apart a b g (by simpa using ha) (by simpa using hb)
  · intro j hj
    exact hC.out j (by simpa using hj)
  · rcases hM g hg with h1 | h1
    · exact .inl (hfl g h1)
    · exact .inr h1
def reqP (q : Pst) (t : Int) : Pst := if reqE q.req t = 0 then { q with ex := reqX q.ex q.req t, req := (q.req + 1) % 65536 } else { q with ex := reqX q.ex q.req t }
def reqK (k : Ck) (n t : Int) : Ck := match portAt k n with
  | none => k
  | some q => if usesB q.now = true then { k with ports := k.ports.set (n.toNat - 1) (reqP q t) } else k
/-- What a call leaves that has written ports in place, and what it has made. -/
theorem Run0.done {w u : World} {base kb mb n : Nat} {S : List Nat} {sps : List Nat} {ft : Nat → Nat → Prop} {k k' : Ck} (h : Run0 w base kb mb sps ft n u k') (hC : CkIs w base kb k mb sps ft) (hn : k.ports.length = n) (hS : ∀ q ∈ S, q < w.heap.size ∧ ¬ ckFoot kb mb k.ports.length ft q) : CkE u base kb S k' ∧ Stay base S w u := h.run.done hC hn hS
set_option maxRecDepth 100000 in
set_option maxHeartbeats 4000000 in
theorem brequest_any {w : World} {base kb : Nat} {S : List Nat} {k : Ck} (h : CkE w base kb S k) (inv : k.Inv) (n t : Int) :
    Calls Try.prog 19 #[.pointer (some ⟨kb, 0, none⟩), .int .i64 n, .int .i64 t] w fun e w' => ∃ v, e = .returned v ∧ CkE w' base kb S (reqK k n t) ∧ Stay base S w w' := by
  obtain ⟨k', hk'⟩ : ∃ r, reqK k n t = r := ⟨_, rfl⟩
  rw [hk']
  obtain ⟨mb, sps, ft, hC, hS⟩ := h
  have HKK := Lib.hid hk'
  have HC := Lib.hid hC
  have HS := Lib.hid hS
  have HI := Lib.hid inv
  clear hk' hC hS inv
  go_enter Try.func19, Try.ntmps19
  go_upto_region 1 with fail
  generalize hW : w.alloc _ = w1
  have hb1 : Below w.heap.size w w1 := by rw [← hW]; exact (Below.refl _ _).alloc (Nat.le_refl _) _
  have hz1 : PtpBlk w1 w.heap.size .zero := by rw [← hW]; exact heap_alloc_new w _
  have hr1 := (Run0.start HC.out).other HC.out rfl (Keep.of (M := fun _ => False) hb1) (fun g hg => hg.elim)
  have c11 : w1.cell? ⟨kb, 11, none⟩ = some (.map (some mb)) := hr1.run.cell 11
  have hlk := look_run hr1.run.map n
  obtain ⟨qr, hqr⟩ : ∃ q, w.heap.size = q := ⟨_, rfl⟩
  rw [hqr] at hz1 ⊢
  have HQR := Lib.hid (Nat.le_of_eq hqr)
  have HZ1 := Lib.hid hz1
  have HR1 := Lib.hid hr1
  clear hW hb1 hz1 hr1 hqr
  rcases hpo : portAt k n with _ | q
  · rw [port_none HC.out.len hpo] at hlk
    have ek : k' = k := by rw [← HKK.out, reqK, hpo]
    subst ek
    clear hpo
    go_wp2_with (refine store_ptp_k (p := .zero) HZ1.out _ _ (by rfl) rfl rfl rfl ?_; intro w2 h2)
    have hr2 := HR1.out.other HC.out rfl (Keep.touch (M := fun g => g = qr) h2.out.2 rfl) (fun g hg => by rw [show g = qr from hg]; exact HQR.out)
    obtain ⟨h3, h4⟩ := hr2.done HC.out rfl HS.out
    refine bodyPost_ret (v := .tuple #[Ptp.zero.v, .int .i64 3]) ?_ rfl ⟨_, rfl, h3, h4⟩
    exact results_ptp rfl _ _ ⟨qr, 0, none⟩ _ _ rfl rfl (load_ptp_run h2.out.1.range)
  obtain ⟨sp, hn1, hq, hsp, hptr⟩ := port_some HC.out.len hpo
  rw [hptr] at hlk
  have HPO := Lib.hid hpo
  obtain ⟨rb, xb, lv, hs, hP, hlow, hturn⟩ := HR1.out.port2 HC.out rfl hq hsp
  have hne := HR1.out.run.port_ne hq hsp
  have hxl : xb < w.heap.size := (hlow xb (.inr (.inl rfl))).1
  have hxk : ¬ (kb = xb) := fun e => (hlow xb (.inr (.inl rfl))).2 e.symm
  have hsl : sp < w.heap.size := (hlow sp (.inl rfl)).1
  have HP := Lib.hid hP
  have HTU := Lib.hid hturn
  have hqi := HI.out.ports q (List.mem_of_getElem? hq)
  have hr0 := hqi.req0
  have hr1 := hqi.req1
  have hu := uses_ck hP
  have hqx : ¬ (qr = xb) := by have := HQR.out; omega
  have hqs : ¬ (qr = sp) := by have := HQR.out; omega
  cases hub : usesB q.now
  all_goals rw [hub] at hu
  all_goals have HU := Lib.hid hu
  all_goals have HUB := Lib.hid hub
  all_goals clear hpo hq hsp hptr hP hlow hturn hqi hu hub
  · have ek : k' = k := by rw [← HKK.out, reqK, HPO.out]; simp only []; rw [if_neg (by rw [HUB.out]; simp)]
    subst ek
    go_wp2_with fail
    refine HU.out.mono ?_
    rintro e _ ⟨rfl, rfl⟩
    go_wp2_with (refine store_ptp_k (p := .zero) HZ1.out _ _ (by rfl) rfl rfl rfl ?_; intro w2 h2)
    have hr2 := HR1.out.other HC.out rfl (Keep.touch (M := fun g => g = qr) h2.out.2 rfl) (fun g hg => by rw [show g = qr from hg]; exact HQR.out)
    obtain ⟨h3, h4⟩ := hr2.done HC.out rfl HS.out
    refine bodyPost_ret (v := .tuple #[Ptp.zero.v, .int .i64 15]) ?_ rfl ⟨_, rfl, h3, h4⟩
    exact results_ptp rfl _ _ ⟨qr, 0, none⟩ _ _ rfl rfl (load_ptp_run h2.out.1.range)
  have ek : k' = { k with ports := k.ports.set (n.toNat - 1) (reqP q t) } := by rw [← HKK.out, reqK, HPO.out]; simp only []; rw [if_pos HUB.out]
  have HKE := Lib.hid ek
  clear ek HKK
  go_wp2_with fail
  refine HU.out.mono ?_
  rintro e _ ⟨rfl, rfl⟩
  have x5 : w1.cell? ⟨sp, 5, none⟩ = some (.pointer (some ⟨xb, 0, none⟩)) := HP.out.cell 5
  have x3 : w1.cell? ⟨sp, 3, none⟩ = some (.int .i64 q.req) := HP.out.cell 3
  clear c11 hlk HU
  go_upto_region 8 with fail
  go_still_tail 9, (by kernel_rfl)
  change wpList _ _ _ _ _ (World.drew w1)
  have hd2 : Below w1.heap.size w1 w1.drew := below_drewN (Below.refl _ _) 1
  generalize w1.drew = w2 at hd2 ⊢
  obtain ⟨x, hx⟩ : ∃ x, reqX q.ex q.req t = x := ⟨_, rfl⟩
  obtain ⟨er, her⟩ : ∃ x, reqE q.req t = x := ⟨_, rfl⟩
  have hP2 := HP.out.below hd2
  have hre := request_any q.ex xb q.req t w2 hP2.ex
  rw [hx, her] at hre
  have HRP := Lib.hid (show reqP q t = if er = 0 then { q with ex := x, req := (q.req + 1) % 65536 } else { q with ex := x } from by rw [reqP, her, hx])
  have HRE := Lib.hid hre
  have HP2 := Lib.hid hP2
  have HD2 := Lib.hid hd2
  have HZ2 := Lib.hid (HZ1.out.below hd2)
  clear x5 x3 hre hP2 hd2 hx her
  go_wp2_with fail
  refine HRE.out.mono ?_
  rintro e w3 ⟨rfl, hX, ht3⟩
  have HP3 := Lib.hid (HP2.out.exch hX ht3)
  have HK3 := Lib.hid ((Keep.of (M := fun g => g = sp ∨ g = xb) HD2.out).thenTouch ht3 (.inl (.inr rfl)))
  have HZ3 := Lib.hid (HZ2.out.keep (Keep.touch (M := fun g => g = xb) ht3 rfl) hqx)
  clear hX ht3 HRE HP2 HD2 HZ2
  by_cases hez : er = 0
  rotate_left
  · have hzb : (er != 0) = true := by simpa using hez
    have hr := HTU.out _ w3 { q with ex := x } HK3.out (fun g hg => .inl (hg.elim .inl (fun e => .inr (.inl e)))) HP3.out
    have HR := Lib.hid hr
    have HX := Lib.hid (show reqP q t = { q with ex := x } by rw [HRP.out, if_neg hez])
    clear hez hr
    go_wp2_with (refine store_ptp_k (p := .zero) HZ3.out _ _ (by rfl) rfl rfl rfl ?_; intro w4 h4)
    have hr2 := HR.out.other HC.out rfl (Keep.touch (M := fun g => g = qr) h4.out.2 rfl) (fun g hg => by rw [show g = qr from hg]; exact HQR.out)
    obtain ⟨h5, h6⟩ := hr2.done HC.out rfl HS.out
    refine bodyPost_ret (v := .tuple #[Ptp.zero.v, .int .i64 er]) ?_ rfl ⟨_, rfl, by rw [HKE.out, HX.out]; exact h5, h6⟩
    exact results_ptp rfl _ _ ⟨qr, 0, none⟩ _ _ rfl rfl (load_ptp_run h4.out.1.range)
  subst hez
  have HX := Lib.hid (show reqP q t = { q with ex := x, req := (q.req + 1) % 65536 } by rw [HRP.out, if_pos rfl])
  have hnk : ¬ (kb = sp ∨ kb = xb) := fun e => e.elim hne hxk
  have s0 : w3.cell? ⟨kb, 6, none⟩ = some (.int .i64 k.c.domain) := HK3.out.cell (HR1.out.run.cell 6) hnk
  have s1 : w3.cell? ⟨kb, 0, none⟩ = some (.int .u64 k.c.id) := HK3.out.cell (HR1.out.run.cell 0) hnk
  have s2 : w3.cell? ⟨sp, 3, none⟩ = some (.int .i64 q.req) := HP3.out.cell 3
  clear hnk
  go_upto_region 11 with fail
  refine wp_region_held_drew (S := fun X => X.cell? ⟨kb, 6, none⟩ = some (.int .i64 k.c.domain) ∧ X.cell? ⟨kb, 0, none⟩ = some (.int .u64 k.c.id) ∧ X.cell? ⟨sp, 3, none⟩ = some (.int .i64 q.req)) (by kernel_rfl) ⟨s0, s1, s2⟩ (fun hHeld => ?_)
  have HD4 := Lib.hid (show Below w3.heap.size w3 w3.drew from below_drewN (Below.refl _ _) 1)
  have HSX := Lib.hid (show ∀ X : World, Below w3.heap.size w3 X → (X.cell? ⟨kb, 6, none⟩ = some (.int .i64 k.c.domain) ∧ X.cell? ⟨kb, 0, none⟩ = some (.int .u64 k.c.id) ∧ X.cell? ⟨sp, 3, none⟩ = some (.int .i64 q.req)) from fun X hb => ⟨cell_below hb s0, cell_below hb s1, cell_below hb s2⟩)
  clear s0 s1 s2
  generalize w3.drew = w4 at *
  refine wpAnyH_take (i := 0) (oi := _) (v := ?_) rfl (by kernel_rfl) (by kernel_rfl) (by kernel_rfl) (fun _ _ _ h => h) (Or.inl ⟨by rfl, ?_⟩) hHeld ?_
  rotate_left
  · intro w hSw
    (try dsimp only at hSw)
    (try obtain ⟨hS1, hS2⟩ := hSw)
    go_simp
    (try with_reducible rfl)
  try simp only [List.getElem_toArray, List.getElem_cons_succ, List.getElem_cons_zero, Act.put, List.setIfInBounds_toArray, List.set_cons_zero, List.set_cons_succ]
  refine wpAnyH_take (i := 1) (oi := _) (v := ?_) rfl (by kernel_rfl) (by kernel_rfl) (by kernel_rfl) (fun _ _ _ h => h) (Or.inl ⟨by rfl, ?_⟩) hHeld ?_
  rotate_left
  · intro w hSw
    (try dsimp only at hSw)
    (try obtain ⟨hS1, hS2⟩ := hSw)
    go_simp
    (try with_reducible rfl)
  try simp only [List.getElem_toArray, List.getElem_cons_succ, List.getElem_cons_zero, Act.put, List.setIfInBounds_toArray, List.set_cons_zero, List.set_cons_succ]
  refine wpAnyH_take (i := 2) (oi := _) (v := ?_) rfl (by kernel_rfl) (by kernel_rfl) (by kernel_rfl) (fun _ _ _ h => h) (Or.inl ⟨by rfl, ?_⟩) hHeld ?_
  rotate_left
  · intro w hSw
    (try dsimp only at hSw)
    (try obtain ⟨hS1, hS2⟩ := hSw)
    go_simp
    (try with_reducible rfl)
  try simp only [List.getElem_toArray, List.getElem_cons_succ, List.getElem_cons_zero, Act.put, List.setIfInBounds_toArray, List.set_cons_zero, List.set_cons_succ]
  refine wpAnyH_take (i := 3) (oi := _) (v := ?_) rfl (by kernel_rfl) (by kernel_rfl) (by kernel_rfl) (fun _ _ _ h => h) (Or.inl ⟨by rfl, ?_⟩) hHeld ?_
  rotate_left
  · intro w hSw
    (try dsimp only at hSw)
    (try obtain ⟨hS1, hS2⟩ := hSw)
    go_simp
    (try with_reducible rfl)
  try simp only [List.getElem_toArray, List.getElem_cons_succ, List.getElem_cons_zero, Act.put, List.setIfInBounds_toArray, List.set_cons_zero, List.set_cons_succ]
  refine wpAnyH_take (i := 4) (oi := _) (v := ?_) rfl (by kernel_rfl) (by kernel_rfl) (by kernel_rfl) (fun _ _ _ h => h) (Or.inl ⟨by rfl, ?_⟩) hHeld ?_
  rotate_left
  · intro w hSw
    (try dsimp only at hSw)
    (try obtain ⟨hS1, hS2⟩ := hSw)
    go_simp
    (try with_reducible rfl)
  try simp only [List.getElem_toArray, List.getElem_cons_succ, List.getElem_cons_zero, Act.put, List.setIfInBounds_toArray, List.set_cons_zero, List.set_cons_succ]
  refine wpAnyH_take (i := 5) (oi := _) (v := ?_) rfl (by kernel_rfl) (by kernel_rfl) (by kernel_rfl) (fun _ _ _ h => h) (Or.inl ⟨by rfl, ?_⟩) hHeld ?_
  rotate_left
  · intro w hSw
    (try dsimp only at hSw)
    (try obtain ⟨hS1, hS2⟩ := hSw)
    go_simp
    (try with_reducible rfl)
  try simp only [List.getElem_toArray, List.getElem_cons_succ, List.getElem_cons_zero, Act.put, List.setIfInBounds_toArray, List.set_cons_zero, List.set_cons_succ]
  refine wpAnyH_take (i := 6) (oi := _) (v := ?_) rfl (by kernel_rfl) (by kernel_rfl) (by kernel_rfl) (fun _ _ _ h => h) (Or.inl ⟨by rfl, ?_⟩) hHeld ?_
  rotate_left
  · intro w hSw
    (try dsimp only at hSw)
    (try obtain ⟨hS1, hS2⟩ := hSw)
    go_simp
    (try with_reducible rfl)
  try simp only [List.getElem_toArray, List.getElem_cons_succ, List.getElem_cons_zero, Act.put, List.setIfInBounds_toArray, List.set_cons_zero, List.set_cons_succ]
  refine wpAnyH_take (i := 7) (oi := _) (v := ?_) rfl (by kernel_rfl) (by kernel_rfl) (by kernel_rfl) (fun _ _ _ h => h) (Or.inl ⟨by rfl, ?_⟩) hHeld ?_
  rotate_left
  · intro w hSw
    (try dsimp only at hSw)
    (try obtain ⟨hS1, hS2⟩ := hSw)
    go_simp
    (try with_reducible rfl)
  try simp only [List.getElem_toArray, List.getElem_cons_succ, List.getElem_cons_zero, Act.put, List.setIfInBounds_toArray, List.set_cons_zero, List.set_cons_succ]
  refine wpAnyH_take (i := 8) (oi := _) (v := ?_) rfl (by kernel_rfl) (by kernel_rfl) (by kernel_rfl) (fun _ _ _ h => h) (Or.inl ⟨by rfl, ?_⟩) hHeld ?_
  rotate_left
  · intro w hSw
    (try dsimp only at hSw)
    (try obtain ⟨hS1, hS2⟩ := hSw)
    go_simp
    (try with_reducible rfl)
  try simp only [List.getElem_toArray, List.getElem_cons_succ, List.getElem_cons_zero, Act.put, List.setIfInBounds_toArray, List.set_cons_zero, List.set_cons_succ]
  refine wpAnyH_take (i := 9) (oi := _) (v := ?_) rfl (by kernel_rfl) (by kernel_rfl) (by kernel_rfl) (fun _ _ _ h => h) (Or.inl ⟨by rfl, ?_⟩) hHeld ?_
  rotate_left
  · intro w hSw
    (try dsimp only at hSw)
    (try obtain ⟨hS1, hS2⟩ := hSw)
    go_simp
    (try with_reducible rfl)
  try simp only [List.getElem_toArray, List.getElem_cons_succ, List.getElem_cons_zero, Act.put, List.setIfInBounds_toArray, List.set_cons_zero, List.set_cons_succ]
  refine wpAnyH_take (i := 10) (oi := _) (v := ?_) rfl (by kernel_rfl) (by kernel_rfl) (by kernel_rfl) (fun _ _ _ h => h) (Or.inl ⟨by rfl, ?_⟩) hHeld ?_
  rotate_left
  · intro w hSw
    (try dsimp only at hSw)
    (try obtain ⟨hS1, hS2⟩ := hSw)
    go_simp
    (try with_reducible rfl)
  try simp only [List.getElem_toArray, List.getElem_cons_succ, List.getElem_cons_zero, Act.put, List.setIfInBounds_toArray, List.set_cons_zero, List.set_cons_succ]
  refine wpAnyH_take (i := 11) (oi := _) (v := ?_) rfl (by kernel_rfl) (by kernel_rfl) (by kernel_rfl) (fun _ _ _ h => h) (Or.inl ⟨by rfl, ?_⟩) hHeld ?_
  rotate_left
  · intro w hSw
    (try dsimp only at hSw)
    (try obtain ⟨hS1, hS2⟩ := hSw)
    go_simp
    (try with_reducible rfl)
  try simp only [List.getElem_toArray, List.getElem_cons_succ, List.getElem_cons_zero, Act.put, List.setIfInBounds_toArray, List.set_cons_zero, List.set_cons_succ]
  refine wpAnyH_take (i := 12) (oi := _) (v := ?_) rfl (by kernel_rfl) (by kernel_rfl) (by kernel_rfl) (fun _ _ _ h => h) (Or.inl ⟨by rfl, ?_⟩) hHeld ?_
  rotate_left
  · intro w hSw
    (try dsimp only at hSw)
    (try obtain ⟨hS1, hS2⟩ := hSw)
    go_simp
    (try with_reducible rfl)
  try simp only [List.getElem_toArray, List.getElem_cons_succ, List.getElem_cons_zero, Act.put, List.setIfInBounds_toArray, List.set_cons_zero, List.set_cons_succ]
  refine wpAnyH_take (i := 13) (oi := _) (v := ?_) rfl (by kernel_rfl) (by kernel_rfl) (by kernel_rfl) (fun _ _ _ h => h) (Or.inl ⟨by rfl, ?_⟩) hHeld ?_
  rotate_left
  · intro w hSw
    (try dsimp only at hSw)
    (try obtain ⟨hS1, hS2⟩ := hSw)
    go_simp
    (try with_reducible rfl)
  try simp only [List.getElem_toArray, List.getElem_cons_succ, List.getElem_cons_zero, Act.put, List.setIfInBounds_toArray, List.set_cons_zero, List.set_cons_succ]
  refine wpAnyH_take (i := 14) (oi := _) (v := ?_) rfl (by kernel_rfl) (by kernel_rfl) (by kernel_rfl) (fun _ _ _ h => h) (Or.inl ⟨by rfl, ?_⟩) hHeld ?_
  rotate_left
  · intro w hSw
    (try dsimp only at hSw)
    (try obtain ⟨hS1, hS2⟩ := hSw)
    go_simp
    (try with_reducible rfl)
  try simp only [List.getElem_toArray, List.getElem_cons_succ, List.getElem_cons_zero, Act.put, List.setIfInBounds_toArray, List.set_cons_zero, List.set_cons_succ]
  refine wpAnyH_take (i := 15) (oi := _) (v := ?_) rfl (by kernel_rfl) (by kernel_rfl) (by kernel_rfl) (fun _ _ _ h => h) (Or.inl ⟨by rfl, ?_⟩) hHeld ?_
  rotate_left
  · intro w hSw
    (try dsimp only at hSw)
    (try obtain ⟨hS1, hS2⟩ := hSw)
    go_simp
    (try with_reducible rfl)
  try simp only [List.getElem_toArray, List.getElem_cons_succ, List.getElem_cons_zero, Act.put, List.setIfInBounds_toArray, List.set_cons_zero, List.set_cons_succ]
  refine wpAnyH_ready (rs := [16]) (by kernel_rfl) (by simp) ?_
  refine AllReadyH.cons rfl (fun K hK => ?_) AllReadyH.nil
  go_simp
  have hz5 : PtpBlk (w4.alloc (.cells Ptp.zero.cells.toArray 42)) w4.heap.size .zero := heap_alloc_new w4 _
  have HA5 := Lib.hid (Below.alloc HD4.out HD4.out.size (Obj.cells Ptp.zero.cells.toArray 42))
  refine hK.out _ (w4.alloc (.cells Ptp.zero.cells.toArray 42)) (HSX.out _ HA5.out) (fun hHeld => ?_)
  clear hK K
  try simp only [List.getElem_toArray, List.getElem_cons_succ, List.getElem_cons_zero, Act.put, List.setIfInBounds_toArray, List.set_cons_zero, List.set_cons_succ]
  have HZ5 := Lib.hid hz5
  clear hz5
  generalize w4.alloc _ = w5 at *
  obtain ⟨m, hm⟩ : ∃ m : Ptp, (⟨1, k.c.domain, 0, 0, k.c.id, n, q.req, 0, 0, 0, 0, 0, .zero⟩ : Ptp) = m := ⟨_, rfl⟩
  have hmv : (⟨1, k.c.domain, 0, 0, k.c.id, n, q.req, 0, 0, 0, 0, 0, .zero⟩ : Ptp).v = m.v := by rw [hm]
  refine wpAnyH_ready (rs := [17]) (by kernel_rfl) (by simp) ?_
  refine AllReadyH.cons rfl (fun K hK => ?_) AllReadyH.nil
  rw [if_pos (by rfl)]
  refine wp_store_mid _ _ _ rfl w4.heap.size 0 (⟨1, k.c.domain, 0, 0, k.c.id, n, q.req, 0, 0, 0, 0, 0, .zero⟩ : Ptp).cells.toArray rfl rfl HZ5.out.there infoPtp (ptp_one _) ?_
  rw [hm]
  have hz6 := HZ5.out.store m
  have ht6 : Touch w4.heap.size w5 (w5.setCells w4.heap.size 0 m.cells) := Touch.sets m.cells 0 w5 (Touch.refl _ _)
  have HB6 := Lib.hid (Touch.below HA5.out ht6 HD4.out.size (Nat.le_refl _))
  refine hK.out _ (w5.setCells w4.heap.size 0 m.cells) (HSX.out _ HB6.out) (fun hHeld => ?_)
  clear hK K
  try simp only [List.getElem_toArray, List.getElem_cons_succ, List.getElem_cons_zero, Act.put, List.setIfInBounds_toArray, List.set_cons_zero, List.set_cons_succ]
  have HZ6 := Lib.hid hz6
  clear hz6 ht6 hm hmv
  generalize w5.setCells w4.heap.size 0 m.cells = w6 at *
  refine wpAnyH_done (by kernel_rfl) ?_ _
  clear hHeld
  have HP6 := Lib.hid (HP3.out.below HB6.out)
  have HK6 := Lib.hid (HK3.out.thenBelow HB6.out)
  have HR6 := Lib.hid (HZ3.out.below HB6.out)
  have hqt : w3.heap.size ≤ w4.heap.size := HD4.out.size
  have hq3 : qr < w3.heap.size := HZ3.out.lt
  have hs3 : sp < w3.heap.size := Nat.lt_of_lt_of_le hsl (Nat.le_trans HR1.out.keep.size HK3.out.size)
  obtain ⟨qt, hqte⟩ : ∃ g, w4.heap.size = g := ⟨_, rfl⟩
  rw [hqte] at HZ6 hqt ⊢
  have hnt : ¬ (qt = sp) := by omega
  have hnr : ¬ (qr = qt) := by omega
  have y3 : w6.cell? ⟨sp, 3, none⟩ = some (.int .i64 q.req) := HP6.out.cell 3
  have g3 := HP6.out.free 3
  clear hqte HSX HA5 HZ5 HD4 HB6 HP3 HK3 HZ3
  go_upto_region 13 with fail
  generalize hw7 : w6.setCell _ _ = w7
  have ht7 : Touch sp w6 w7 := by rw [← hw7]; exact (Touch.refl sp w6).set 3 _
  have hP7 : PortIs w7 base sp { q with ex := x, req := (q.req + 1) % 65536 } rb xb lv hs := HP6.out.write ht7 (by rw [← hw7, heap_set HP6.out.row]; rfl) rfl rfl
  have hr7 := HTU.out _ w7 _ (HK6.out.thenTouch ht7 (.inl (.inl rfl))) (fun g hg => .inl (hg.elim .inl (fun e => .inr (.inl e)))) hP7
  have HR7 := Lib.hid hr7
  have HZ7 := Lib.hid (HZ6.out.keep (Keep.touch (M := fun g => g = sp) ht7 rfl) hnt)
  have HQ7 := Lib.hid (HR6.out.keep (Keep.touch (M := fun g => g = sp) ht7 rfl) hqs)
  clear hw7 ht7 hP7 hr7 y3 g3
  go_wp2_with (first | (refine load_ptp_at HZ7.out.range _ (by rfl) rfl rfl ?_) | (refine store_ptp_k (p := m) HQ7.out _ _ (by rfl) rfl rfl rfl ?_; intro w8 h8))
  have hr8 := HR7.out.other HC.out rfl (Keep.touch (M := fun g => g = qr) h8.out.2 rfl) (fun g hg => by rw [show g = qr from hg]; exact HQR.out)
  obtain ⟨h5, h6⟩ := hr8.done HC.out rfl HS.out
  refine bodyPost_ret (v := .tuple #[m.v, .int .i64 0]) ?_ rfl ⟨_, rfl, by rw [HKE.out, HX.out]; exact h5, h6⟩
  exact results_ptp rfl _ _ ⟨qr, 0, none⟩ _ _ rfl rfl (load_ptp_run h8.out.1.range)
end Go.Proofs.Ytfbmlpdomfchpaa
