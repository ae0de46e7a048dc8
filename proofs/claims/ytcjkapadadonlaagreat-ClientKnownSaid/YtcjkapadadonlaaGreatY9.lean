/-
  An interpreter over clean values: bytes to strings, capacities, append, make; each operation.
-/
import Derived.Test.YtcjkapadadonlaaGreatY8
import Derived.Laws.BytesString
set_option linter.unusedSimpArgs false
set_option linter.unusedVariables false
namespace Go.Cl
open Go.RowKit

def byteNums : List CV → Option (List Int)
  | [] => some []
  | .sc (.int .u8 n) :: l => (byteNums l).map (n :: ·)
  | _ => none

theorem byteNums_spec {S : St} : ∀ {l : List CV} {ns : List Int} {news : List Value}, byteNums l = some ns → FRs S l news → news = ns.map (Value.int .u8)
  | [], ns, news, h, hf => by simp [byteNums] at h; simp [FRs] at hf; simp [h.symm, hf]
  | v :: l, ns, news, h, hf => by
    unfold byteNums at h
    split at h
    · rename_i e; cases e
    · rename_i n l' e
      cases e
      cases hb : byteNums l with
      | none => simp [hb] at h
      | some ms =>
        simp [hb] at h; subst h
        simp only [FRs] at hf
        obtain ⟨c, ds, rfl, h1, h2⟩ := hf
        simp only [FR] at h1
        rw [h1.1, byteNums_spec hb h2]; rfl
    · cases h

def bytesOf (ns : List Int) : ByteArray := ⟨(ns.map fun n => UInt8.ofNat n.toNat).toArray⟩
theorem bytesOf_eq (ns : List Int) : ns.foldl (fun r n => r.push (UInt8.ofNat n.toNat)) ByteArray.empty = bytesOf ns := by
  have key : ∀ (ns : List Int) (b : ByteArray), ns.foldl (fun r n => r.push (UInt8.ofNat n.toNat)) b = ⟨(b.data.toList ++ ns.map fun n => UInt8.ofNat n.toNat).toArray⟩ := by
    intro ns
    induction ns with
    | nil => intro b; simp
    | cons n ns ih => intro b; rw [List.foldl_cons, ih]; simp [ByteArray.push]
  rw [key]; rfl

section
variable (C : Ctx)

def isBytes (s d : TypeId) : Bool :=
  match C.tt s, C.tt d with
  | some ⟨.base (.slice e), _, _, _⟩, some ⟨.base .string, _, _, _⟩ => match C.tt e with
    | some ⟨.base (.int .u8), _, _, _⟩ => true
    | _ => false
  | _, _ => false
theorem isBytes_spec {s d : TypeId} (h : isBytes C s d = true) : ∃ e te, C.P.underlying s = some (.slice e) ∧ C.P.underlying d = some .string ∧ C.P.underlying e = some (.int .u8) ∧ C.tt e = some te ∧ te.sh = .s := by
  unfold isBytes at h
  split at h <;> try (cases h; done)
  rename_i e sh by_ ze sh' by' ze' h1 h2
  split at h <;> try (cases h; done)
  rename_i sh2 by2 ze2 h3
  exact ⟨e, _, (C.htt _ _ h1).d.1, (C.htt _ _ h2).d.1, (C.htt _ _ h3).d.1, h3, (C.htt _ _ h3).d.2.2⟩

def xconv (h : Heap) (s d : TypeId) (x : CV) : Option CV :=
  bif isBytes C s d then match srcOf C h s x with
    | some l => match byteNums l with
      | some ns => some (.sc (.string (bytesOf ns)))
      | none => none
    | none => none
  else qconv C s d x

theorem byteNums_sh : ∀ {l : List CV} {ns : List Int}, byteNums l = some ns → ∀ v ∈ l, v.shape = .s
  | [], _, _ => by simp
  | v :: l, ns, h => by
    unfold byteNums at h
    split at h
    · rename_i e; cases e
    · rename_i n l' e
      cases e
      cases hb : byteNums l with
      | none => simp [hb] at h
      | some ms =>
        intro u hu
        rcases List.mem_cons.1 hu with rfl | hu
        · rfl
        · exact byteNums_sh hb u hu
    · cases h

theorem xconv_sound {w0 : World} {B : Nat} {S : St} {p : Hp} {w : World} (r : XRel w0 B S p w) {s d : TypeId} {x v : CV} {y : Value} (hx : VR S x y) (h : xconv C p.h s d x = some v) : ∃ z, (convert s d y).run C.P w = .ok z w ∧ VR S v z := by
  unfold xconv at h
  cases hb : isBytes C s d with
  | false => rw [hb] at h; exact qconv_sound C hx h
  | true =>
    rw [hb] at h
    simp only [cond_true] at h
    split at h <;> try (cases h; done)
    rename_i l hl
    split at h <;> try (cases h; done)
    rename_i ns hns
    cases h
    obtain ⟨e, te, hs, hd, he, hte, hsh⟩ := isBytes_spec C hb
    have hok := C.htt _ _ hte
    obtain ⟨news, hn, hsrc⟩ := src_sound C r.r hok.good hx hl (by rw [hsh]; exact byteNums_sh hns)
    have hnews := byteNums_spec hns hn
    subst hnews
    have hsz : te.sh.size = 1 := by rw [hsh]; rfl
    rw [hsz] at hsrc
    have hbase : ∃ base n cap, y = .slice base n cap := by
      unfold srcOf at hl
      split at hl <;> try (cases hl; done)
      · rename_i h1
        rw [VR_nonagg rfl] at hx; simp only [FR] at hx
        obtain ⟨hx, _⟩ := hx
        rcases hx with ⟨_, _, hx⟩ | ⟨b, off, cap, sz, es, hx, _⟩ <;> exact ⟨_, _, _, (List.cons.inj hx).1⟩
      · rename_i h1
        have := (C.htt _ _ h1).d.1
        rw [hs] at this; cases this
      · rename_i h1
        rw [VR_nonagg rfl] at hx; simp only [FR] at hx
        obtain ⟨⟨rb, sh, l, o, cap, hx, _⟩, _⟩ := hx
        exact ⟨_, _, _, (List.cons.inj hx).1⟩
    obtain ⟨base, n, cap, rfl⟩ := hbase
    have hlen := hsrc.len w
    simp only [Builtin.lenOf, Sem.run_pure, Result.ok.injEq] at hlen
    refine ⟨.string (bytesOf ns), ?_, VR_sc.2 ⟨rfl, rfl⟩⟩
    rw [run_convert_bytes_string w s d e base n cap hs he hd]
    cases base with
    | none =>
      have h0 := hsrc.cells
      simp only [Builtin.firstCells, Sem.run_pure] at h0
      have : ns = [] := by
        injection h0 with h0
        have := congrArg Array.toList h0
        simpa using this.symm
      subst this
      simp [Conv.bytesToString, bytesOf]
      rfl
    | some a =>
      have h0 := hsrc.cells
      simp only [Builtin.firstCells, Nat.mul_one] at h0
      rw [← hlen.1] at h0
      rw [run_bytesToString w a n cap ns h0, bytesOf_eq]

def xcap (x : CV) : Option CV :=
  match x with
  | .lst tl l => bif tl.full then some (.sc (.int .i64 l.length)) else none
  | _ => none
theorem xcap_sound {S : St} {w : World} {t ty : TypeId} {ts : Array TypeId} {x v : CV} {y : Value} (hts : ts[0]? = some t) (ht : isSliceT C t = true) (hx : VR S x y) (h : xcap x = some v) : ∃ z, (Builtin.cap_ ts ty #[y]).run C.P w = .ok z w ∧ VR S v z := by
  unfold xcap at h
  split at h <;> try (cases h; done)
  rename_i tl l
  obtain ⟨e, hu⟩ := isSliceT_spec C ht
  cases hf : tl.full with
  | false => rw [hf] at h; cases h
  | true =>
    rw [hf] at h
    simp only [cond_true, Option.some.injEq] at h
    subst h
    rw [VR_nonagg rfl] at hx; simp only [FR] at hx
    obtain ⟨hx, _⟩ := hx
    refine ⟨.int .i64 l.length, ?_, VR_sc.2 ⟨rfl, rfl⟩⟩
    rcases hx with ⟨rfl, hm, hx⟩ | ⟨b, off, cap, sz, es, hx, _, _, _, _, hfit⟩
    · have hx := (List.cons.inj hx).1
      rw [hx]
      simp [Builtin.cap_, hts, run_underlying hu, goInt]
    · have hx := (List.cons.inj hx).1
      have hc : cap = l.length := by
        cases tl <;> simp [Tail.full] at hf
        · exact hfit.elim
        · exact hfit
      rw [hx, hc]
      simp [Builtin.cap_, hts, run_underlying hu, goInt]

/-! append. -/
noncomputable def xappI (p : Hp) (te : TI) (b : CV) (xs : List CV) : XRes :=
  match b with
  | .lst tl l => bif allSh l te.sh && allSh xs te.sh && Nat.ble ((l.length + xs.length) * te.bytes) 140737488355328 && Nat.ble (l.length + xs.length) 9223372036854775807 then
      match xs with
      | [] => .ret (.lst tl l) p
      | _ :: _ => match tl with
        | .nil => .ret (.lst (.own p.n) (l ++ xs)) (p.new (.tail (l.length + xs.length)))
        | .exact => .ret (.lst (.own p.n) (l ++ xs)) (p.new (.tail (l.length + xs.length)))
        | .own j => match p.t.get j with
          | some (.tail k) => bif Nat.beq k l.length && Nat.blt 0 l.length then .ret (.lst (.own p.n) (l ++ xs)) ((p.set j none).new (.tail (l.length + xs.length))) else .stuck
          | _ => .stuck
        | _ => .stuck
    else .stuck
  | _ => .stuck

noncomputable def xappend (mu : Bool) (p : Hp) (t tx : TypeId) (b x : CV) : XRes :=
  match C.tt t with
  | some ⟨.base (.slice e), _, _, _⟩ => match C.tt e with
    | some te => cond mu
        (match xsrc C p.h e tx x with
          | some (z :: zs) => bif allSh (z :: zs) te.sh then xappmut p te b (z :: zs) else .stuck
          | some [] => match srcOf C p.h tx x with
            | some [] => xappI p te b []
            | _ => .stuck
          | none => .stuck)
        (match srcOf C p.h tx x with
          | some xs => xappI p te b xs
          | none => .stuck)
    | none => .stuck
  | _ => .stuck

theorem get_ht {p : Hp} {i : Nat} {n : Nat} (hi : p.t.get i = some (.tail n)) : p.h i = some (.tail n) := by
  simp [Hp.h, hi, XObj.obj]

theorem xappI_sound {w0 : World} {B : Nat} {S : St} {p : Hp} {w : World} (r : XRel w0 B S p w) {t tx ty e : TypeId} {te : TI} {sh : Shape} {by_ : Nat} {ze : CV} (ht : C.tt t = some ⟨.base (.slice e), sh, by_, ze⟩) (hte : C.tt e = some te) {b x : CV} {b' y : Value} {xs : List CV}
    (hb : VR S b b') (hx : VR S x y) (hs : srcOf C p.h tx x = some xs) : XVal C w0 B S w (Builtin.append_ #[t, tx] ty #[b', y]) (xappI p te b xs) := by
  unfold xappI
  split <;> try trivial
  rename_i tl l
  cases hc : (allSh l te.sh && allSh xs te.sh && Nat.ble ((l.length + xs.length) * te.bytes) 140737488355328 && Nat.ble (l.length + xs.length) 9223372036854775807) with
  | false => trivial
  | true =>
    simp only [Bool.and_eq_true] at hc
    obtain ⟨⟨⟨hl, hxs⟩, hfit⟩, h63⟩ := hc
    have hl := allSh_spec hl
    have hxs := allSh_spec hxs
    have hfit := Nat.le_of_ble_eq_true hfit
    have h63 := Nat.le_of_ble_eq_true h63
    simp only [cond_true]
    have go : (xs ≠ [] → appTl p.h tl l xs fun _ _ => True) → ∃ y' w' S' v h', (Builtin.append_ #[t, tx] ty #[b', y]).run C.P w = .ok y' w' ∧ S.ext S' ∧ R w0 B S' h' w' ∧ VR S' v y' ∧
        ((xs = [] ∧ v = .lst tl l ∧ h' = p.h ∧ S'.n = S.n) ∨ (xs ≠ [] ∧ v = .lst (.own S.n) (l ++ xs) ∧ h' = appH p.h tl S.n (l.length + xs.length) ∧ S'.n = S.n + 1)) := fun happ => by
      obtain ⟨y', w', S', v, h', k1, k2, k3, k4, _, tl', l', xs', e1, e2, e3⟩ := cappend_sound2 C r.r (t := t) (tx := tx) (ty := ty) (K := fun _ _ => True) hb hx (by
        simp only [cappend, ht, hs, hte]
        exact ⟨hl, hxs, hfit, h63, fun _ => trivial, happ⟩)
      cases e1
      rw [hs] at e2; cases e2
      exact ⟨y', w', S', v, h', k1, k2, k3, k4, e3⟩
    cases xs with
    | nil =>
      obtain ⟨y', w', S', v, h', k1, k2, k3, k4, h⟩ := go (fun h => absurd rfl h)
      rcases h with ⟨_, rfl, rfl, hn⟩ | ⟨h, _⟩
      · exact ⟨y', w', S', k1, k2, ⟨k3, by rw [hn]; exact r.n, r.good⟩, k4⟩
      · exact absurd rfl h
    | cons z zs =>
      simp only
      have fin : (appTl p.h tl l (z :: zs) fun _ _ => True) → ∀ p' : Hp, p'.n = Nat.succ p.n → p'.h = appH p.h tl S.n (l.length + (z :: zs).length) → p'.good → XVal C w0 B S w (Builtin.append_ #[t, tx] ty #[b', y]) (.ret (.lst (.own p.n) (l ++ z :: zs)) p') := fun happ p' h1 h2 h3 => by
        obtain ⟨y', w', S', v, h', k1, k2, k3, k4, h⟩ := go (fun _ => happ)
        rcases h with ⟨h, _⟩ | ⟨_, rfl, rfl, hn⟩
        · cases h
        · exact ⟨y', w', S', k1, k2, ⟨by rw [h2]; exact k3, by rw [hn, h1, r.n], h3⟩, by rw [← r.n]; exact k4⟩
      cases tl with
      | nil => exact fin (fun _ _ => trivial) _ rfl (by rw [Hp.new_h, r.n]; rfl) (Hp.good_new r.good fun sh v e => by cases e)
      | exact => exact fin (fun _ _ => trivial) _ rfl (by rw [Hp.new_h, r.n]; rfl) (Hp.good_new r.good fun sh v e => by cases e)
      | own j =>
        simp only
        split <;> try trivial
        rename_i k hk
        cases hb2 : (Nat.beq k l.length && Nat.blt 0 l.length) with
        | false => trivial
        | true =>
          rw [Bool.and_eq_true] at hb2
          have hkl := Nat.eq_of_beq_eq_true hb2.1
          have hpos : 0 < l.length := by simpa using hb2.2
          subst hkl
          simp only [cond_true]
          exact fin ⟨fun h => by rw [h] at hpos; simp at hpos, get_ht hk, fun _ _ => trivial⟩ _ rfl (by rw [Hp.new_h, Hp.set_h, r.n]; rfl) (Hp.good_new (Hp.good_set r.good fun sh v e => by cases e) fun sh v e => by cases e)
      | view => trivial
      | part => trivial

theorem xappend_sound {w0 : World} {B : Nat} {S : St} {p : Hp} {w : World} (r : XRel w0 B S p w) {mu : Bool} {t tx ty : TypeId} {b x : CV} {b' y : Value} (hb : VR S b b') (hx : VR S x y) :
    XVal C w0 B S w (Builtin.append_ #[t, tx] ty #[b', y]) (xappend C mu p t tx b x) := by
  unfold xappend
  split <;> try trivial
  rename_i e sh by_ ze ht
  split <;> try trivial
  rename_i te hte
  cases mu with
  | true =>
    simp only [cond_true]
    split
    · rename_i z zs hs
      cases hc : allSh (z :: zs) te.sh with
      | false => trivial
      | true =>
        have hsh := allSh_spec hc
        obtain ⟨news, h1, h2⟩ := xsrc_sound C r.r hte hx hs hsh
        exact xappmut_sound C r (C.htt _ _ ht).d.1 hte hb h1 hsh (by simp) h2
    · split <;> try trivial
      rename_i hs
      exact xappI_sound C r ht hte hb hx hs
    · trivial
  | false =>
    simp only [cond_false]
    split <;> try trivial
    rename_i xs hs
    exact xappI_sound C r ht hte hb hx hs

/-! make. -/
noncomputable def xmake (p : Hp) (t : TypeId) (l c : CV) : XRes :=
  match C.tt t, l, c with
  | some ⟨.base (.slice e), _, _, _⟩, .sc (.int .i64 n), .sc (.int .i64 m) =>
    match C.tt e with
    | some te => bif decide (n = m) && decide (0 < n) && decide (n ≤ 9223372036854775807) && Nat.blt 0 te.sh.size && Nat.ble (te.bytes * n.toNat) 281474976710656 then
        .ret (.slc p.n [] 0 n.toNat) (p.new (.var (.n (List.replicate n.toNat te.sh)) (.agg (List.replicate n.toNat te.zero))))
      else bif decide (n = 0) then ofOpt p (qmake C t l c) else .stuck
    | none => .stuck
  | _, _, _ => .stuck

theorem xmake_sound {w0 : World} {B : Nat} {S : St} {p : Hp} {w : World} (r : XRel w0 B S p w) {t : TypeId} {l c : CV} {x y : Value} (hl : VR S l x) (hc : VR S c y) : XVal C w0 B S w (Instr.makeSlice t x y) (xmake C p t l c) := by
  unfold xmake
  split <;> try trivial
  rename_i e sh by_ ze n m h1
  split <;> try trivial
  rename_i te h2
  cases hb : (decide (n = m) && decide (0 < n) && decide (n ≤ 9223372036854775807) && Nat.blt 0 te.sh.size && Nat.ble (te.bytes * n.toNat) 281474976710656) with
  | false =>
    simp only [cond_false]
    cases h0 : decide (n = 0) with
    | false => trivial
    | true =>
      simp only [cond_true]
      cases hq : qmake C t (.sc (.int .i64 n)) (.sc (.int .i64 m)) with
      | none => trivial
      | some v =>
        obtain ⟨y', w', S', k1, k2, k3, k4, k5, k6⟩ := qmake_sound C r.r hl hc hq
        exact ⟨y', w', S', k1, ⟨k2, fun i _ h => by rw [k3]; exact h⟩, ⟨k5, by rw [k4]; exact r.n, r.good⟩, k6⟩
  | true =>
    simp only [Bool.and_eq_true, decide_eq_true_eq] at hb
    obtain ⟨⟨⟨⟨rfl, h0⟩, hn⟩, hnz⟩, hby⟩ := hb
    have hnz : 0 < te.sh.size := by simpa using hnz
    have hby := Nat.le_of_ble_eq_true hby
    simp only [cond_true]
    have hte := C.htt _ _ h2
    obtain ⟨i, z, hi, hisz, hbytes, hz, hfz⟩ := hte.info
    have hFz : FR S te.zero z.cells.toList := FR_flatC _ _ hfz
    have hzs : z.cells.size = te.sh.size := by rw [← Array.length_toList, FR.length _ _ hFz, CV.size, hte.zsh]
    have hx := (VR_sc.1 hl).1
    have hy := (VR_sc.1 hc).1
    subst hx; subst hy
    have hrun := run_makeSlice (w := w) (C.htt _ _ h1).d.1 hi hz (by rw [hisz, hzs]) (by omega) hn (by rw [hbytes]; exact hby)
    have hsh : CV.shape (.agg (List.replicate n.toNat te.zero)) = .n (List.replicate n.toNat te.sh) := by
      rw [CV.shape, CV.shapes_eq, List.map_replicate, hte.zsh]
    obtain ⟨g1, g2, g3⟩ := r.alloc (v := .agg (List.replicate n.toNat te.zero)) (sh := .n (List.replicate n.toNat te.sh)) (e := e) (arr := (List.replicate n.toNat z.cells.toList).flatten.toArray) hsh (by simp only [FR]; simpa using FRs_replicate hFz n.toNat)
    refine ⟨_, _, _, hrun, g1, g2, ?_⟩
    rw [VR_nonagg rfl]; simp only [FR]
    refine ⟨⟨w.heap.size, _, List.replicate n.toNat te.sh, 0, n.toNat, by simp [Shape.sizes], ⟨_, g3, fun _ _ => ⟨by simp, te.sh.size, fun x hx => by rw [List.eq_of_mem_replicate hx], ?_⟩⟩, by rw [hsh]; simp [Shape.sub], by rw [hsh]; simp [Shape.off], Nat.le_refl _, by simp⟩, by simp⟩
    simp [hzs]
end
/-! A slice literal whose elements may be written: it lies in a variable of its own. -/
section
variable (C : Ctx)
noncomputable def xbuildS (p : Hp) (t : TypeId) (len : Nat) (parts : List (Nat × CV)) : XRes :=
  match C.tt t with
  | some ⟨.base (.slice e), _, _, _⟩ => match C.tt e with
    | some te => bif Nat.ble (len * te.sh.size) 16777216 && Nat.blt 0 te.sh.size && Nat.blt 0 len && partsOk (List.replicate len te.sh) parts then
        .ret (.slc p.n [] 0 len) (p.new (.var (.n (List.replicate len te.sh)) (.agg (setAll (List.replicate len te.zero) parts)))) else .stuck
    | none => .stuck
  | _ => .stuck

theorem xbuildS_sound {w0 : World} {B : Nat} {S : St} {p : Hp} {w : World} (r : XRel w0 B S p w) {t : TypeId} {len : Nat} {parts : List (Nat × CV)} {vals : List (Nat × Value)} (hlen : parts.length = vals.length)
    (hpv : ∀ (k : Nat) (p : Nat × CV) (q : Nat × Value), parts[k]? = some p → vals[k]? = some q → p.1 = q.1 ∧ VR S p.2 q.2) : XVal C w0 B S w (Instr.buildSlice t len vals.toArray) (xbuildS C p t len parts) := by
  unfold xbuildS
  split <;> try trivial
  rename_i e sh by_ ze h1
  split <;> try trivial
  rename_i te h2
  cases hb : (Nat.ble (len * te.sh.size) 16777216 && Nat.blt 0 te.sh.size && Nat.blt 0 len && partsOk (List.replicate len te.sh) parts) with
  | false => trivial
  | true =>
    simp only [Bool.and_eq_true] at hb
    obtain ⟨⟨⟨hsmall, hnz⟩, hl0⟩, hok⟩ := hb
    have hsmall := Nat.le_of_ble_eq_true hsmall
    have hnz : 0 < te.sh.size := by simpa using hnz
    have hl0 : 0 < len := by simpa using hl0
    simp only [cond_true]
    have hu := (C.htt _ _ h1).d.1
    have hte := C.htt _ _ h2
    obtain ⟨i, z, hi, hisz, _, hz, hfz⟩ := hte.info
    have hFz : FR S te.zero z.cells.toList := FR_flatC _ _ hfz
    have hzs : z.cells.size = te.sh.size := by
      rw [← Array.length_toList, FR.length _ _ hFz, CV.size, hte.zsh]
    let arr0 : Array Value := (Array.range (len * te.sh.size)).map fun i => z.cells[i % z.cells.size]!
    have harr0 : arr0.toList = (List.replicate len z.cells.toList).flatten := by
      have := rep_cells z.cells len
      rw [hzs] at this
      simp only [arr0, hzs]; exact this
    have hF0 : FRs S (List.replicate len te.zero) arr0.toList := by rw [harr0]; exact FRs_replicate hFz len
    have hshapes : CV.shapes (List.replicate len te.zero) = List.replicate len te.sh := by rw [CV.shapes_eq, List.map_replicate, hte.zsh]
    obtain ⟨arr', k1, k2, k3⟩ := fill_sound (S := S) (fun i => some (i * te.sh.size, te.sh.size)) (List.replicate len te.sh) (fun i sh hsh => by
        obtain ⟨hil, hh⟩ := List.getElem?_eq_some_iff.1 hsh
        simp only [List.length_replicate] at hil
        simp only [List.getElem_replicate] at hh
        rw [sizes_replicate_take _ _ _ (by omega), ← hh]) parts vals _ arr0 hlen (fun k p q hk hq => by
            obtain ⟨e1, e2⟩ := hpv k p q hk hq
            refine ⟨e1, e2, ?_⟩
            have := List.all_eq_true.1 hok p (List.mem_of_getElem? hk)
            simpa using this) hF0 hshapes
    have hsz : arr'.size = len * te.sh.size := by
      have := sizes_replicate_take len len te.sh (Nat.le_refl _)
      rw [List.take_of_length_le (by simp)] at this
      rw [← Array.length_toList, FRs.length _ _ k2, k3, this]
    have hrun : (Instr.buildSlice t len vals.toArray).run C.P w = .ok (.slice (some ⟨w.heap.size, 0, none⟩) len len) (w.alloc (.cells arr' e)) := by
      have hnb : ¬ (len * te.sh.size > 16777216) := by omega
      have hl0' : ¬ (len * te.sh.size = 0) := by
        have := Nat.mul_pos hl0 hnz; omega
      simp only [arr0] at k1
      simp [Instr.buildSlice, run_underlying hu, sizeOf, typeInfo, hi, hisz, hnb, hl0', run_zeroValue hi hz, k1, newRow]
    have hsh : CV.shape (.agg (setAll (List.replicate len te.zero) parts)) = .n (List.replicate len te.sh) := by
      rw [CV.shape]; exact congrArg _ k3
    obtain ⟨g1, g2, g3⟩ := r.alloc (v := .agg (setAll (List.replicate len te.zero) parts)) (sh := .n (List.replicate len te.sh)) (e := e) (arr := arr') hsh (by simp only [FR]; exact k2)
    refine ⟨_, _, _, hrun, g1, g2, ?_⟩
    rw [VR_nonagg rfl]; simp only [FR]
    refine ⟨⟨w.heap.size, _, List.replicate len te.sh, 0, len, by simp [Shape.sizes], ⟨_, g3, fun _ _ => ⟨by simp, te.sh.size, fun x hx => by rw [List.eq_of_mem_replicate hx], ?_⟩⟩, by rw [hsh]; simp [Shape.sub], by rw [hsh]; simp [Shape.off], Nat.le_refl _, by simp⟩, by simp⟩
    omega
end
end Go.Cl
