/- order's closure, walked. Conditions: the modules that are told are not too many. -/
import Derived.Test.YtfeeeogkkajefaaLkN
import Derived.Test.YtfeeeogkkajefaaLkD
namespace Go.Proofs.Ytfeeeogkkajefaa
open Go.RowKit
set_option linter.unusedVariables false
set_option linter.unusedSimpArgs false

theorem each_bound {f : ByteArray → Tr → Res} {T : List ByteArray} (hf : ∀ m t t', t.st m = 0 → f m t = .ok t' → t'.ord.length + cnt T t' ≤ t.ord.length + cnt T t) :
    ∀ l t t', each f l t = .ok t' → t'.ord.length + cnt T t' ≤ t.ord.length + cnt T t
  | [], t, t', h => by
    simp only [each, Res.ok.injEq] at h
    subst h
    exact Nat.le_refl _
  | n :: l, t, t', h => by
    unfold each at h
    by_cases h1 : t.st n = 1
    · rw [if_pos h1] at h; cases h
    · rw [if_neg h1] at h
      by_cases h0 : t.st n = 0
      · rw [if_pos h0] at h
        cases hr : f n t with
        | ok t1 =>
          rw [hr] at h
          exact Nat.le_trans (each_bound hf l t1 t' h) (hf n t t1 h0 hr)
        | err w e => rw [hr] at h; cases h
      · rw [if_neg h0] at h
        exact each_bound hf l t t' h
theorem cnt_set {all : ByteArray → Option (List ByteArray)} {T : List ByteArray} (hT : Told all T) {m : ByteArray} {l : List ByteArray} {t : Tr} (ha : all m = some l) (h0 : t.st m = 0) : cnt T (t.set m 1) + 1 ≤ cnt T t :=
  cnt_lt (Le.set t m 1 (by decide)) ((hT m).1 (by rw [ha]; rfl)) h0 (by show (if m = m then 1 else t.st m) ≠ 0; rw [if_pos rfl]; decide)
theorem thr_bound {all : ByteArray → Option (List ByteArray)} {T : List ByteArray} (hT : Told all T) : ∀ k m t t', t.st m = 0 → thr all k m t = .ok t' → t'.ord.length + cnt T t' ≤ t.ord.length + cnt T t
  | 0, m, t, t', _, h => by cases h
  | k + 1, m, t, t', h0, h => by
    unfold thr at h
    cases ha : all m with
    | none => rw [ha] at h; cases h
    | some l =>
      rw [ha] at h
      cases he : each (thr all k) l (t.set m 1) with
      | err who e => simp only [he] at h; cases h
      | ok t1 =>
        simp only [he, Res.ok.injEq] at h
        subst h
        have h1 := each_bound (thr_bound hT k) l _ _ he
        have h2 := cnt_set hT ha h0
        have h3 := cnt_le (T := T) (Le.done t1 m)
        have e1 : (t1.done m).ord.length = t1.ord.length + 1 := by show (t1.ord ++ [m]).length = _; simp
        have e2 : (t.set m 1).ord = t.ord := rfl
        rw [e1]
        rw [e2] at h1
        omega
/-- Where the closure's variables lie. -/
structure OC where
  B : Nat
  pa : Nat
  ps : Nat
  pt : Nat
  po : Nat
  ga : Nat
  gs : Nat
def OC.blocks (c : OC) : List Nat := [c.pa, c.ps, c.pt, c.po, c.ga, c.gs]
def OC.caps (c : OC) : Array Value := #[.pointer (some ⟨c.pa, 0, none⟩), .pointer (some ⟨c.ps, 0, none⟩), .pointer (some ⟨c.pt, 0, none⟩), .pointer (some ⟨c.po, 0, none⟩)]
structure OC.wf (c : OC) : Prop where
  nodup : c.blocks.Nodup
  low : ∀ b ∈ c.blocks, c.B ≤ b
def stf (t : Tr) (m : ByteArray) : Option Nat := if t.st m = 0 then none else some (t.st m)
def StV (v : Value) (n : Nat) : Prop := v = .int .u8 (n : Int)
structure OEnv (c : OC) (w0 : World) (all : ByteArray → Option (List ByteArray)) (t : Tr) (w : World) : Prop where
  bel : Below c.B w0 w
  ba : Blk w c.pa 81 #[.map (some c.ga)]
  bs : Blk w c.ps 84 #[.map (some c.gs)]
  bt : Blk w c.pt 85 #[.func (.func 35) #[] c.caps]
  ma : MapR w c.ga (fun v s => SlStr w0 (fun b => b < c.B) v s) all
  ms : MapR w c.gs StV (stf t)
  row : ∃ vo, Blk w c.po 25 #[vo] ∧ w.ownsRow c.B 9 1 vo t.ord.length (t.ord.map Value.string) ∧ ∀ b, vo.ownBlock = some b → b ∉ c.blocks
section
variable {c : OC} {w0 w W : World} {all : ByteArray → Option (List ByteArray)} {t t' : Tr}
theorem own_keep {base size n : Nat} {e : TypeId} {v : Value} {xs : List Value} {l : List Nat} (h : w.ownsRow base e size v n xs) (hw : Wr l w W) (hn : ∀ b, v.ownBlock = some b → b ∉ l) : W.ownsRow base e size v n xs := by
  refine ⟨h.1, ?_⟩
  rcases h.2 with h0 | ⟨g, cap, cur, e1, e2, e3, e4⟩
  · exact .inl h0
  · refine .inr ⟨g, cap, cur, e1, e2, ?_, e4⟩
    have hg : g < w.heap.size := by
      rcases Nat.lt_or_ge g w.heap.size with h | h
      · exact h
      · rw [Array.getElem?_eq_none h] at e3; cases e3
    exact (hw.block g hg (hn g (by rw [e1]; rfl))).trans e3
theorem own_lt {base size n : Nat} {e : TypeId} {v : Value} {xs : List Value} (h : w.ownsRow base e size v n xs) : ∀ b, v.ownBlock = some b → b < w.heap.size := fun b hb => (h.lt b hb).2
theorem OEnv.size (h : OEnv c w0 all t w) (hB : c.B ≤ w0.heap.size) : c.B ≤ w.heap.size := Nat.le_trans hB h.bel.size
theorem OEnv.wr0 (h : OEnv c w0 all t w) (hB : c.B ≤ w0.heap.size) (hw : Wr [] w W) : OEnv c w0 all t W := by
  obtain ⟨vo, r1, r2, r3⟩ := h.row
  exact ⟨h.bel.trans (hw.below (h.size hB) (fun _ hx => by cases hx)), h.ba.wr0 hw, h.bs.wr0 hw, h.bt.wr0 hw, h.ma.keep hw (by simp), h.ms.keep hw (by simp), vo, r1.wr0 hw, own_keep r2 hw (fun _ _ => by simp), r3⟩
theorem OC.wf.ne (hc : c.wf) : c.pa ≠ c.ps ∧ c.pa ≠ c.pt ∧ c.pa ≠ c.po ∧ c.pa ≠ c.ga ∧ c.pa ≠ c.gs ∧ c.ps ≠ c.pt ∧ c.ps ≠ c.po ∧ c.ps ≠ c.ga ∧ c.ps ≠ c.gs ∧ c.pt ≠ c.po ∧ c.pt ≠ c.ga ∧ c.pt ≠ c.gs ∧ c.po ≠ c.ga ∧ c.po ≠ c.gs ∧ c.ga ≠ c.gs := by
  have h := hc.nodup
  unfold OC.blocks at h
  simp only [List.nodup_cons, List.mem_cons, List.not_mem_nil, or_false, not_or] at h
  obtain ⟨⟨a1, a2, a3, a4, a5⟩, ⟨b1, b2, b3, b4⟩, ⟨c1, c2, c3⟩, ⟨d1, d2⟩, e1, _⟩ := h
  exact ⟨a1, a2, a3, a4, a5, b1, b2, b3, b4, c1, c2, c3, d1, d2, e1⟩
theorem OEnv.state (hc : c.wf) (h : OEnv c w0 all t w) (hB : c.B ≤ w0.heap.size) (hw : Wr [c.gs] w W) (hm : MapR W c.gs StV (stf t')) (ho : t'.ord = t.ord) : OEnv c w0 all t' W := by
  obtain ⟨vo, r1, r2, r3⟩ := h.row
  obtain ⟨n1, n2, n3, n4, n5, n6, n7, n8, n9, n10, n11, n12, n13, n14, n15⟩ := hc.ne
  have hgs : c.B ≤ c.gs := hc.low _ (by simp [OC.blocks])
  refine ⟨h.bel.trans (hw.below (h.size hB) (fun x hx => by rw [List.mem_singleton] at hx; rw [hx]; exact hgs)), h.ba.wr hw (by simpa using n5), h.bs.wr hw (by simpa using n9), h.bt.wr hw (by simpa using n12), h.ma.keep hw (by simpa using n15), hm, vo, r1.wr hw (by simpa using n14), ?_, r3⟩
  rw [ho]
  exact own_keep r2 hw (fun b hb hx => by rw [List.mem_singleton] at hx; exact r3 b hb (by rw [hx]; simp [OC.blocks]))
/-- One more at the end of the row. -/
theorem OEnv.push (hc : c.wf) (h : OEnv c w0 all t w) (hB : c.B ≤ w0.heap.size) {vo v' : Value} {m : ByteArray} (r1 : Blk w c.po 25 #[vo]) (r3 : ∀ b, vo.ownBlock = some b → b ∉ c.blocks)
    (hown : W.ownsRow c.B 9 1 v' (t.ord.length + 1) (t.ord.map Value.string ++ [.string m])) (hg : w.grownBy W vo.ownBlock) (hb : v'.ownBlock = vo.ownBlock ∨ v'.ownBlock = some w.heap.size) (hlt : ∀ b, vo.ownBlock = some b → c.B ≤ b) (ho : t'.ord = t.ord ++ [m]) (hs : ∀ x, t'.st x = t.st x) :
    OEnv c w0 all t' (W.setCell ⟨c.po, 0, none⟩ v') := by
  obtain ⟨n1, n2, n3, n4, n5, n6, n7, n8, n9, n10, n11, n12, n13, n14, n15⟩ := hc.ne
  have hw : Wr (ownL vo) w W := Wr.ofGrownOwn hg
  have hf : ∀ b, b ∈ c.blocks → b ∉ ownL vo := fun b hb hx => r3 b (mem_ownL.1 hx) hb
  have hpo : c.B ≤ c.po := hc.low _ (by simp [OC.blocks])
  have e : stf t' = stf t := by funext x; unfold stf; rw [hs]
  have hbv : ∀ b, v'.ownBlock = some b → b ∉ c.blocks := by
    intro b hb' hm
    rcases hb with h1 | h1
    · exact r3 b (h1 ▸ hb') hm
    · rw [h1] at hb'
      injection hb' with hb'
      have : b < w.heap.size := by
        simp only [OC.blocks, List.mem_cons, List.not_mem_nil, or_false] at hm
        rcases hm with rfl | rfl | rfl | rfl | rfl | rfl
        · exact h.ba.lt
        · exact h.bs.lt
        · exact h.bt.lt
        · exact r1.lt
        · exact h.ma.lt
        · exact h.ms.lt
      omega
  have hwp : Wr [c.po] W (W.setCell ⟨c.po, 0, none⟩ v') := (Wr.refl [c.po] W).setOn (by simp) v'
  have hba := h.ba.wr hw (hf _ (by simp [OC.blocks]))
  have hbs := h.bs.wr hw (hf _ (by simp [OC.blocks]))
  have hbt := h.bt.wr hw (hf _ (by simp [OC.blocks]))
  have hma := h.ma.keep hw (hf _ (by simp [OC.blocks]))
  have hms := h.ms.keep hw (hf _ (by simp [OC.blocks]))
  have hbo := r1.wr hw (hf _ (by simp [OC.blocks]))
  refine ⟨(h.bel.grown hg (h.size hB) hlt).setCell hpo v', hba.wr hwp (by simpa using n3), hbs.wr hwp (by simpa using n7), hbt.wr hwp (by simpa using n10), hma.keep hwp (by simpa using fun e => n13 e.symm), ?_, v', by simpa using hbo.set_ 0 v', ?_, hbv⟩
  · rw [e]
    exact hms.keep hwp (by simpa using fun e => n14 e.symm)
  · rw [ho, List.length_append, List.map_append]
    exact own_keep hown hwp (fun b hb hx => hbv b hb (by rw [List.mem_singleton] at hx; rw [hx]; simp [OC.blocks]))
end
/-- What the closure answers. -/
def ThrP (c : OC) (w0 : World) (all : ByteArray → Option (List ByteArray)) (r : Res) (e : Ending) (w' : World) : Prop :=
  match r with
  | .ok t' => e = .returned (.tuple #[.string ⟨#[]⟩, .int .i64 0]) ∧ OEnv c w0 all t' w'
  | .err who en => e = .returned (.tuple #[.string who, .int .i64 en]) ∧ ∃ t', OEnv c w0 all t' w'
theorem upd_st {t : Tr} (m : ByteArray) (n : Nat) (hn : n ≠ 0) : (fun j => if j = m then some n else stf t j) = stf (t.set m n) := by
  funext j
  unfold stf Tr.set
  by_cases hj : j = m
  · simp [hj, hn]
  · simp [hj]
theorem look_st {w : World} {g : Nat} {t : Tr} (h : MapR w g StV (stf t)) (m : ByteArray) : (Instr.lookup 84 (.map (some g)) (.string m) false).run Try.prog w = .ok (.int .u8 (t.st m : Int)) w := by
  obtain ⟨v, hl, h1, h2⟩ := MapR.look1 Try.underlying84 Try.underlying9 h m Try.zeroValue87
  rw [hl]
  congr 1
  by_cases h0 : t.st m = 0
  · rw [h2 (if_pos h0), h0]
    rfl
  · exact h1 _ (if_neg h0)
/-- How far the closure's loop has come. -/
def LoopAt (c : OC) (w0 : World) (all : ByteArray → Option (List ByteArray)) (T : List ByteArray) (k : Nat) (N : Nat) (m : ByteArray) (t : Tr) (l : List ByteArray) (j : Nat) (wr : World) : Prop :=
  ∃ t', OEnv c w0 all t' wr ∧ each (thr all k) l (t.set m 1) = each (thr all k) (l.drop j) t' ∧ Le (t.set m 1) t' ∧ t'.ord.length + cnt T t' + 1 ≤ N
theorem each_drop {f : ByteArray → Tr → Res} {l : List ByteArray} {j : Nat} {n : ByteArray} {t : Tr} (h : l[j]? = some n) :
    each f (l.drop j) t = if t.st n = 1 then .err n 220 else if t.st n = 0 then match f n t with | .ok t' => each f (l.drop (j + 1)) t' | .err who e => .err who e else each f (l.drop (j + 1)) t := by
  have hk := (List.getElem?_eq_some_iff.1 h).1
  have e : l[j] = n := (List.getElem?_eq_some_iff.1 h).2
  conv => lhs; rw [List.drop_eq_getElem_cons hk, each]
  rw [e]
  try rfl
theorem info_strO : (Try.prog.info? 9).map (fun i => (i.zero, i.size, i.bytes)) = some (some (.string ⟨#[]⟩), 1, 16) := by kernel_rfl
set_option maxRecDepth 100000 in
set_option maxHeartbeats 8000000 in
theorem thr_any (c : OC) (hc : c.wf) (w0 : World) (hB : c.B ≤ w0.heap.size) (all : ByteArray → Option (List ByteArray)) (T : List ByteArray) (hT : Told all T) : ∀ (k : Nat) (m : ByteArray) (t : Tr) (w : World), OEnv c w0 all t w → t.st m = 0 → cnt T t < k → t.ord.length + cnt T t ≤ 1099511627776 →
    Calls Try.prog 35 #[.string m, .pointer (some ⟨c.pa, 0, none⟩), .pointer (some ⟨c.ps, 0, none⟩), .pointer (some ⟨c.pt, 0, none⟩), .pointer (some ⟨c.po, 0, none⟩)] w (ThrP c w0 all (thr all k m t))
  | 0, m, t, w, _, _, h, _ => absurd h (by omega)
  | k + 1, m, t, w, h, h0, hk, hN => by
    have IH := thr_any c hc w0 hB all T hT k
    obtain ⟨i0, hi0, hz0, hz1, hz2⟩ := info_parts info_strO
    have hgs : c.B ≤ c.gs := hc.low _ (by simp [OC.blocks])
    obtain ⟨va, hl, hl1, hl2⟩ := MapR.look2 Try.underlying81 Try.underlying9 h.ma m Try.zeroValue25
    have x0 := h.ba.cell 0
    have y0 := h.bs.cell 0
    simp only [List.getElem?_toArray, List.getElem?_cons_zero] at x0 y0
    cases ha : all m with
    | none =>
      rw [ha] at hl
      rw [Option.isSome_none] at hl
      have hr : thr all (k + 1) m t = .err m 3 := by unfold thr; rw [ha]
      rw [hr]
      have HH := Lib.hid h
      have hva := hl2 ha
      subst hva
      clear h h0 hk hN ha hl1 hl2 hr IH hT
      go_enter Try.func35, Try.ntmps35
      go_wp2_with fail
      go_ret2
      exact ⟨rfl, t, HH.out⟩
    | some l =>
      rw [ha] at hl
      rw [Option.isSome_some] at hl
      have hls := hl1 l ha
      obtain ⟨A, ca, rfl, la1, la2⟩ := Sl.form hls
      unfold maxLen at la2
      have hcs := cnt_set hT ha h0
      obtain ⟨w1, hu1, k1, hm1⟩ := MapR.upd Try.underlying84 Try.underlying9 h.ms m (.int .u8 1) 1 rfl
      rw [upd_st m 1 (by decide)] at hm1
      have e1 := h.state hc hB k1 hm1 rfl
      obtain ⟨r, hrr⟩ : ∃ r, thr all (k + 1) m t = r := ⟨_, rfl⟩
      rw [hrr]
      have hr : r = match each (thr all k) l (t.set m 1) with | .ok t' => .ok (t'.done m) | .err who e => .err who e := by
        rw [← hrr]
        conv => lhs; unfold thr
        rw [ha]
        try rfl
      have hdone : ∀ t', each (thr all k) l (t.set m 1) = .ok t' → t'.ord.length + cnt T t' + 1 ≤ t.ord.length + cnt T t := fun t' he => by
        have := each_bound (thr_bound hT k) l _ _ he
        have e2 : (t.set m 1).ord = t.ord := rfl
        rw [e2] at this
        omega
      have E1 := Lib.hid e1
      have HR := Lib.hid hr
      have HLS := Lib.hid hls
      have HCS := Lib.hid hcs
      have HTOLD := Lib.hid hT
      have HD := Lib.hid hdone
      have HIH := Lib.hid IH
      have HN := Lib.hid hN
      have HK := Lib.hid hk
      clear h h0 hk hN ha hl1 hl2 hr hls hcs hm1 k1 e1 hdone hT IH hrr
      go_enter Try.func35, Try.ntmps35
      go_wp2_with fail
      go_loopw [27] (fun s27 wr => ∃ j : Nat, j ≤ l.length ∧ s27 = .int .i64 j ∧ LoopAt c w0 all T k (t.ord.length + cnt T t) m t l j wr) (fun s27 _ => l.length - (intOf s27).toNat)
      case atStart => exact ⟨0, by omega, rfl, t.set m 1, E1.out, rfl, Le.refl _, by have := HCS.out; show t.ord.length + _ + 1 ≤ _; omega⟩
      case round =>
        obtain ⟨j, hj, rfl, t', he, hev, hle, hbd⟩ := hrel
        clear x0 y0
        have y0 := he.bs.cell 0
        have z0 := he.bt.cell 0
        simp only [List.getElem?_toArray, List.getElem?_cons_zero, OC.caps] at y0 z0
        by_cases hlt : j < l.length
        · obtain ⟨n, hn⟩ : ∃ n, l[j]? = some n := ⟨_, List.getElem?_eq_getElem hlt⟩
          obtain ⟨b, off, cc, ee, _, _, hP, hc0⟩ := Sl.at_ HLS.out (j := j) (u := .string n) (by rw [List.getElem?_map, hn]; rfl)
          injection ee with q1 q2 q3
          subst q1
          subst q3
          have hcell := (he.bel.cell (p := ⟨b, off + j, none⟩) hP).trans hc0
          have hlk := look_st he.ms n
          have hst2 : each (thr all k) l (t.set m 1) = _ := hev.trans (each_drop hn)
          have HST := Lib.hid hst2
          have HE := Lib.hid he
          have HLE := Lib.hid hle
          have HBD := Lib.hid hbd
          clear q2 hn hc0 hP he hev hle hbd hst2
          have hlti : (j : Int) < (l.length : Int) := by omega
          have hj0 : (0 : Int) ≤ (j : Int) := by omega
          by_cases s1 : t'.st n = 1
          · have hres : each (thr all k) l (t.set m 1) = .err n 220 := by rw [HST.out, if_pos s1]
            rw [s1] at hlk
            have HRES := Lib.hid hres
            clear s1 hres
            go_wp2_with fail
            go_ret2
            rw [show r = .err n 220 by rw [HR.out, HRES.out]]
            exact ⟨rfl, t', HE.out⟩
          by_cases s0 : t'.st n = 0
          · have hres : each (thr all k) l (t.set m 1) = match thr all k n t' with | .ok t' => each (thr all k) (l.drop (j + 1)) t' | .err who e => .err who e := by rw [HST.out, if_neg s1, if_pos s0]; try rfl
            have hcn : cnt T t' < k := by
              have a1 := cnt_le (T := T) HLE.out
              have a2 := HCS.out
              have a3 := HK.out
              omega
            have hih := HIH.out n t' wr HE.out s0 hcn (by have := HBD.out; have := HN.out; omega)
            have hbd2 := thr_bound HTOLD.out k n t'
            have hle2 := thr_le (all := all) k n t'
            rw [s0] at hlk
            have HRES := Lib.hid hres
            have HIHN := Lib.hid hih
            have HBD2 := Lib.hid (fun t'' => hbd2 t'' s0)
            have HLE2 := Lib.hid hle2
            clear s1 s0 hres hcn hih hbd2 hle2
            go_wp2_with fail
            refine HIHN.out.mono ?_
            intro e w2 hp
            cases hq : thr all k n t' with
            | ok t2 =>
              rw [hq] at hp
              obtain ⟨rfl, henv⟩ := hp
              have HENV := Lib.hid henv
              have hres2 : each (thr all k) l (t.set m 1) = each (thr all k) (l.drop (j + 1)) t2 := by rw [HRES.out, hq]
              have hb2 := HBD2.out t2 hq
              have hl2 := HLE2.out t2 hq
              have hb3 : t2.ord.length + cnt T t2 + 1 ≤ t.ord.length + cnt T t := by have := HBD.out; omega
              have HRES2 := Lib.hid hres2
              have HL2 := Lib.hid (HLE.out.trans hl2)
              have HB3 := Lib.hid hb3
              clear hq henv hres2 hb2 hl2 hb3
              go_wp2_with fail
              go_roundw
              case rel => exact ⟨j + 1, by omega, by go_num, t2, HENV.out, HRES2.out, HL2.out, HB3.out⟩
              case measure => simp [intOf]; omega
            | err who en =>
              rw [hq] at hp
              obtain ⟨rfl, t2, henv⟩ := hp
              have HENV := Lib.hid henv
              have hen : en ≠ 0 := fun e0 => by rw [e0] at hq; exact thr_err_ne all k n t' who hq
              have hres2 : each (thr all k) l (t.set m 1) = .err who en := by rw [HRES.out, hq]
              have HRES2 := Lib.hid hres2
              have hd : decide (en = 0) = false := decide_eq_false hen
              clear hq henv hres2
              go_wp2_with fail
              go_ret2
              rw [show r = .err who en by rw [HR.out, HRES2.out]]
              exact ⟨rfl, t2, HENV.out⟩
          · have hres : each (thr all k) l (t.set m 1) = each (thr all k) (l.drop (j + 1)) t' := by rw [HST.out, if_neg s1, if_neg s0]
            have HRES := Lib.hid hres
            have d1 : ((t'.st n : Int) == 1) = false := by simpa using (by omega : ¬ (t'.st n : Int) = 1)
            have d0 : ((t'.st n : Int) == 0) = false := by simpa using (by omega : ¬ (t'.st n : Int) = 0)
            clear hres
            go_wp2_with fail
            go_roundw
            case rel => exact ⟨j + 1, by omega, by go_num, t', HE.out, HRES.out, HLE.out, HBD.out⟩
            case measure => simp [intOf]; omega
        · have hjn : j = l.length := by omega
          subst hjn
          have hres : each (thr all k) l (t.set m 1) = .ok t' := by rw [hev, List.drop_length]; rfl
          have hrd : r = .ok (t'.done m) := by rw [HR.out, hres]
          obtain ⟨w2, hu2, k2, hm2⟩ := MapR.upd Try.underlying84 Try.underlying9 he.ms m (.int .u8 2) 2 rfl
          rw [upd_st m 2 (by decide)] at hm2
          have e2 := he.state (t' := t'.set m 2) hc hB k2 hm2 rfl
          have e3 := e2.wr0 hB ((Wr.refl [] w2).alloc (.cells #[.string m] 9))
          obtain ⟨vo, r1, r2, r3⟩ := e2.row
          have r1' := r1.alloc (.cells #[.string m] 9)
          have r2' := r2.alloc (.cells #[.string m] 9)
          have hnew := Blk.new w2 9 #[.string m]
          have hln : t'.ord.length + 1 ≤ 1099511627776 := by have := HN.out; omega
          obtain ⟨v', w4, hrun, hown, hgrow, _, hbk⟩ := run_append_own_at (P := Try.prog) (w2.alloc (.cells #[.string m] 9)) c.B 25 25 9 i0 _ 1 16 Try.underlying25 hi0 hz0 hz1 hz2 rfl (by decide) vo t'.ord.length _ r2' ⟨w2.heap.size, 0, none⟩ 1 1 [.string m] rfl (fun j u hj => by
            rw [Addr.add_lit, Nat.zero_add, hnew.cell]
            simpa using hj) (by simp [Value.oneCell']) (by unfold maxLen; omega) (by omega) (e3.size hB)
          have hfin := e3.push (t' := t'.done m) hc hB r1' r3 hown hgrow hbk (fun b hb => (r2.lt b hb).1) rfl (fun x => rfl)
          obtain ⟨Av, cv, hv'⟩ : ∃ A c, v' = .slice A (t'.ord.length + 1) c := by
            rcases hown.2 with ⟨_, h0⟩ | ⟨g, cap, cur, e, _⟩
            · omega
            · exact ⟨_, _, e⟩
          subst hv'
          have zo := r1.cell 0
          have zf := r1.frozen 0
          have bo4 := (r1'.wr (Wr.ofGrownOwn hgrow) (fun hx => r3 _ (mem_ownL.1 hx) (by simp [OC.blocks])))
          have zc := bo4.cell 0
          have zz := bo4.frozen 0
          have hpo : c.po < w2.heap.size := r1.lt
          simp only [List.getElem?_toArray, List.getElem?_cons_zero] at zo zc
          have HFIN := Lib.hid hfin
          have HRD := Lib.hid hrd
          have HRUN := Lib.hid hrun
          clear hres hrd hfin hrun hown hgrow hbk hm2 k2 e2 e3 r1 r2 r3 r1' r2' hnew he hev hle hbd bo4
          go_wp2_with (at_builtin; refine wpList_append_run rfl _ _ _ rfl _ _ rfl rfl _ _ HRUN.out ?_)
          go_ret2
          rw [HRD.out]
          exact ⟨rfl, HFIN.out⟩
end Go.Proofs.Ytfeeeogkkajefaa
