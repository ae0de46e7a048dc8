/-
  An interpreter over clean values: append as a whole, make.
-/
import Derived.Test.YtcjkapadadonlaaGreatY5
set_option linter.unusedSimpArgs false
set_option linter.unusedVariables false
namespace Go.Cl
open Go.RowKit

section
variable (C : Ctx)

/-- What the model's value is, behind what it runs to. -/
def XVal (w0 : World) (B : Nat) (S : St) (w : World) (s : Sem Value) : XRes → Prop
  | .ret v p' => ∃ y w' S', s.run C.P w = .ok y w' ∧ S.ext S' ∧ XRel w0 B S' p' w' ∧ VR S' v y
  | .pan _ _ => False
  | .stuck => True

theorem world_set {w0 w : World} {B b : Nat} (hb : B ≤ b) (hw : Below B w0 w) (vs : List Value) (o : Nat) : Below B w0 (w.setCells b o vs) := below_setCells hb vs o w hw

theorem xappmut_sound {w0 : World} {B : Nat} {S : St} {p : Hp} {w : World} (r : XRel w0 B S p w) {t tx ty e : TypeId} {te : TI} (hu : C.P.underlying t = some (.slice e)) (hte : C.tt e = some te) {b : CV} {b' y : Value} {xs : List CV} {news : List Value}
    (hb : VR S b b') (hxs : FRs S xs news) (hxsh : ∀ v ∈ xs, v.shape = te.sh) (hne : xs ≠ []) (hsrc : SrcX C.P te.sh.size tx e y xs.length news w) :
    XVal C w0 B S w (Builtin.append_ #[t, tx] ty #[b', y]) (xappmut p te b xs) := by
  have hok := C.htt _ _ hte
  have hpos : 0 < xs.length := List.length_pos_iff.2 hne
  unfold xappmut
  split
  · -- a list that is full
    rename_i tl l
    cases hc : (tl.full && allSh l te.sh && Nat.ble ((l.length + xs.length) * te.bytes) 140737488355328 && Nat.ble (l.length + xs.length) 9223372036854775807) with
    | false => trivial
    | true =>
      simp only [Bool.and_eq_true] at hc
      obtain ⟨⟨⟨hfull, hl⟩, hfit⟩, h63⟩ := hc
      have hl := allSh_spec hl
      have hfit := Nat.le_of_ble_eq_true hfit
      have h63 := Nat.le_of_ble_eq_true h63
      simp only [cond_true]
      obtain ⟨base, cap, olds, rfl, hcap, hol, holn, hold, hnone, hex, _⟩ := lst_parts hb hl
      have hcap' := hex hfull
      obtain ⟨rest, cap', hrun, hge, hsize⟩ := append_grow_x C r.r (ty := ty) (n := l.length) hu hte hsrc (olds := olds) (cap := cap) holn (fun j u hu a ha => by
        obtain ⟨h1, h2⟩ := hold j u hu a ha
        exact ⟨h1, r.r.kcell _ _ _ h2⟩) (fun h => by rw [hnone h]; rfl) (by omega) hfit h63
      obtain ⟨S', k1, k2, k3⟩ := grown_var r (l := l ++ xs) (n := l.length + xs.length) (te := te) (vs := olds ++ news) (rest := rest.toList) (e := e) (cap := cap') (by simp) (fun v hv => by
        rcases List.mem_append.1 hv with hv | hv
        · exact hl v hv
        · exact hxsh v hv) (FRs_append l hol hxs) (arr := (olds ++ news).toArray ++ rest) (by simp) hge hsize
      exact ⟨_, _, S', hrun, k1, k2, k3⟩
  · -- a list in a variable
    rename_i j n
    split <;> try trivial
    rename_i sh l hj
    cases hc : (Nat.ble n l.length && Nat.blt 0 l.length && allSh l te.sh && Nat.ble ((l.length + xs.length) * te.bytes) 140737488355328 && Nat.ble (l.length + xs.length) 9223372036854775807) with
    | false => trivial
    | true =>
      simp only [Bool.and_eq_true] at hc
      obtain ⟨⟨⟨⟨hn, hlpos⟩, hl⟩, hfit⟩, h63⟩ := hc
      have hn := Nat.le_of_ble_eq_true hn
      have hlpos : 0 < l.length := by simpa using hlpos
      have hl := allSh_spec hl
      have hfit := Nat.le_of_ble_eq_true hfit
      have h63 := Nat.le_of_ble_eq_true h63
      simp only [cond_true]
      rw [VR_nonagg rfl] at hb; simp only [FR] at hb
      obtain ⟨⟨rb, sh0, l0, o, cap, hbe, ⟨tot, hμ, htot⟩, hsub, ho, hcap, hol⟩, _⟩ := hb
      have hbe := (List.cons.inj hbe).1
      have hpi := get_h hj
      obtain ⟨⟨hs0, ⟨arr, e0, cs, junk, ha, haj, hat, hf⟩, hK⟩, hB⟩ := r.r.live j _ _ hpi hμ
      simp only [Loc.block] at hB
      simp only [Shape.sub, Option.some.injEq] at hsub
      have hshl := allSh_shapes hl
      have hl0 : l0 = List.replicate l.length te.sh := by
        rw [← hs0, CV.shape, hshl] at hsub
        simpa using hsub.symm
      subst hsub
      subst hl0
      have ho : o = 0 := by simp [Shape.off] at ho; exact ho.symm
      subst ho
      obtain ⟨hlc, sz, hsz, hcsz⟩ := htot (by trivial) (by trivial)
      have hsz : te.sh.size = sz := hsz te.sh (List.mem_replicate.2 ⟨by omega, rfl⟩)
      subst hsz
      simp only [List.length_replicate] at hlc hol
      simp only [FR] at hf
      obtain ⟨a1, b1, rfl, hf1, hf2, hla1⟩ := FRs_split l n cs hf
      have hla1 : a1.length = n * te.sh.size := by rw [hla1, hshl, sizes_replicate_take _ _ _ hn]
      have hlb : (a1 ++ b1).length = l.length * te.sh.size := by rw [FRs.length _ _ hf, sizes_all _ hl]
      have hba : b' = .slice (some ⟨rb, 0, none⟩) n cap := by rw [hbe]; simp [Shape.sizes]
      subst hba
      have hnl : news.length = xs.length * te.sh.size := hsrc.len
      obtain ⟨i, z, hi, hisz, _⟩ := hok.info
      have hfrz : ∀ k, w.frozen? ⟨rb, k, none⟩ = false := fun k => by simp [World.frozen?, ha]
      -- in place
      have room : n + xs.length ≤ cap → (Builtin.append_ #[t, tx] ty #[.slice (some ⟨rb, 0, none⟩) n cap, y]).run C.P w = .ok (.slice (some ⟨rb, 0, none⟩) (n + xs.length) cap) (w.setCells rb a1.length news) := fun hroom => by
        have hrun := run_append_room_x (P := C.P) w t tx ty e i hu hi rb 0 n cap y xs.length news (by rw [hisz]; exact hsrc) hroom (fun k hk => by
          rw [hisz, cell_cells ha]
          have h1 : (n + xs.length) * te.sh.size ≤ cap * te.sh.size := Nat.mul_le_mul_right _ hroom
          rw [Nat.add_mul] at h1
          have : n * te.sh.size + k < arr.size := by omega
          simp [this]) (fun k hk => hfrz _)
        rw [hisz, Nat.zero_add, ← hla1] at hrun
        exact hrun
      have hoth : ∀ b, b ≠ rb → (w.setCells rb a1.length news).heap[b]? = w.heap[b]? := fun b hb => heap_setCells_ne hb _ _ _
      cases hin : Nat.ble (n + xs.length) l.length with
      | true =>
        have hin := Nat.le_of_ble_eq_true hin
        simp only [cond_true]
        obtain ⟨a2, b2, rfl, hf3, hf4, hla2⟩ := FRs_split (l.drop n) xs.length b1 hf2
        have hdl : (l.drop n).length = l.length - n := by simp
        have hdsh : CV.shapes (l.drop n) = List.replicate (l.length - n) te.sh := by rw [allSh_shapes (fun v hv => hl v (List.mem_of_mem_drop hv)), hdl]
        have hla2 : a2.length = news.length := by rw [hla2, hdsh, sizes_replicate_take _ _ _ (by omega), hnl]
        obtain ⟨arr', hA, hA'⟩ := heap_setCells news a1 a2 (b2 ++ junk) w arr ha (by rw [haj]; simp) hla2
        have hFR : FR S (.agg (l.take n ++ xs ++ l.drop (n + xs.length))) (a1 ++ news ++ b2) := by
          simp only [FR]
          rw [List.drop_drop] at hf4
          exact FRs_append _ (FRs_append _ hf1 hxs) hf4
        have hsh' : CV.shape (.agg (l.take n ++ xs ++ l.drop (n + xs.length))) = .n (List.replicate l.length te.sh) := by
          rw [CV.shape, allSh_shapes (sh := te.sh) (fun v hv => by
            rcases List.mem_append.1 hv with hv | hv
            · rcases List.mem_append.1 hv with hv | hv
              · exact hl v (List.mem_of_mem_take hv)
              · exact hxsh v hv
            · exact hl v (List.mem_of_mem_drop hv))]
          congr 2
          simp; omega
        have hr' := r.r.recell hpi hμ (v' := .agg (l.take n ++ xs ++ l.drop (n + xs.length))) (w' := w.setCells rb a1.length news) (below_setCells hB _ _ _ r.r.below) (size_setCells _ _ _) hoth
          ⟨arr', e0, a1 ++ news ++ b2, junk, hA, by rw [hA']; simp, by
            rw [← hat, ← Array.length_toList, ← Array.length_toList, hA', haj]; simp [hla2], hFR⟩ hsh'
        refine ⟨_, _, S, room (by omega), St.ext.refl _, ⟨by rw [Hp.set_h]; exact hr', r.n, Hp.good_set r.good fun sh' v' e' => ?_⟩, ?_⟩
        · cases e'
          rw [hsh', ← r.good j _ _ hj, CV.shape, hshl]
        · rw [VR_nonagg rfl]; simp only [FR]
          exact ⟨⟨rb, _, List.replicate l.length te.sh, 0, cap, by simp [Shape.sizes], ⟨tot, hμ, fun _ _ => ⟨by simpa using hlc, te.sh.size, fun x hx => by rw [List.eq_of_mem_replicate hx], hcsz⟩⟩, rfl, rfl, by omega, by simpa using hin⟩, by simp⟩
      | false =>
        have hin : ¬ (n + xs.length ≤ l.length) := fun h => by rw [Nat.ble_eq_true_of_le h] at hin; cases hin
        simp only [cond_false]
        have hall : ∀ v ∈ l.take n ++ xs, v.shape = te.sh := fun v hv => by
          rcases List.mem_append.1 hv with hv | hv
          · exact hl v (List.mem_of_mem_take hv)
          · exact hxsh v hv
        have hlen' : (l.take n ++ xs).length = n + xs.length := by simp; omega
        have hsh' : CV.shape (.agg (l.take n ++ xs)) = .n (List.replicate (n + xs.length) te.sh) := by rw [CV.shape, allSh_shapes hall, hlen']
        by_cases hroom : n + xs.length ≤ cap
        · -- it grows where it is
          have hle : (n + xs.length) * te.sh.size ≤ arr.size := by rw [hat]; exact Nat.le_trans (Nat.mul_le_mul_right _ hroom) hcsz
          have hlen : arr.toList.length = arr.size := Array.length_toList
          rw [haj] at hlen
          simp only [List.length_append] at hlen
          rw [Nat.add_mul] at hle
          obtain ⟨arr', hA, hA'⟩ := heap_setCells news a1 ((b1 ++ junk).take news.length) ((b1 ++ junk).drop news.length) w arr ha (by rw [haj, List.append_assoc, List.append_assoc, List.take_append_drop]) (by simp; omega)
          have hFR : FR S (.agg (l.take n ++ xs)) (a1 ++ news) := by
            simp only [FR]; exact FRs_append _ hf1 hxs
          have hr' := r.r.regrow hpi hμ (v' := .agg (l.take n ++ xs)) (w' := w.setCells rb a1.length news) (below_setCells hB _ _ _ r.r.below) (size_setCells _ _ _) hoth
            ⟨arr', e0, a1 ++ news, (b1 ++ junk).drop news.length, hA, hA', by
              rw [← hat, ← Array.length_toList, ← Array.length_toList, hA', haj]; simp; omega, hFR⟩
          have hf := r.r.fresh S.n (Nat.le_refl _)
          refine ⟨_, _, _, room hroom, St.ext_named (Nat.le_refl _) hf.1, ⟨by rw [Hp.new_h, Hp.set_h, show (p.set j none).n = S.n from r.n.symm]; exact hr', ?_, Hp.good_new (Hp.good_set r.good fun sh' v' e' => by cases e') fun sh' v' e' => by cases e'; exact hsh'⟩, ?_⟩
          · show max S.n (S.n + 1) = Nat.succ p.n
            have := r.n; omega
          · rw [VR_nonagg rfl]; simp only [FR]
            refine ⟨⟨rb, _, List.replicate (n + xs.length) te.sh, 0, cap, by simp [Shape.sizes], ⟨tot, by rw [← r.n]; exact St.named_μ, fun _ _ => ⟨by simpa using hroom, te.sh.size, fun x hx => by rw [List.eq_of_mem_replicate hx], hcsz⟩⟩, by rw [hsh']; simp [Shape.sub], by rw [hsh']; simp [Shape.off], hroom, by simp⟩, by simp⟩
        · -- it moves
          have r2 : XRel w0 B S (p.set j none) w := ⟨by
            rw [Hp.set_h]
            exact r.r.drop fun k => by
              by_cases e : k = j
              · subst e; exact .inl (upd_same _ _ _)
              · exact .inr (upd_ne _ _ e), r.n, Hp.good_set r.good fun sh' v' e' => by cases e'⟩
          have hnm : n + xs.length ≤ l.length + xs.length := by omega
          obtain ⟨rest, cap', hrun, hge, hsize⟩ := append_grow_x C r.r (ty := ty) (n := n) (base := some ⟨rb, 0, none⟩) hu hte hsrc (olds := a1) (cap := cap) hla1 (fun k u hk a ha' => by
            cases ha'
            refine ⟨rfl, ?_⟩
            show w.cell? ⟨rb, 0 + k, none⟩ = some u
            rw [cell_cells ha, Nat.zero_add, ← Array.getElem?_toList, haj, List.append_assoc, List.getElem?_append_left (List.getElem?_eq_some_iff.1 hk).1]; exact hk) (fun h => by cases h) (by omega) (Nat.le_trans (Nat.mul_le_mul_right _ hnm) hfit) (by omega)
          obtain ⟨S', k1, k2, k3⟩ := grown_var r2 (l := l.take n ++ xs) (n := n + xs.length) (te := te) (vs := a1 ++ news) (rest := rest.toList) (e := e) (cap := cap') hlen' hall (FRs_append _ hf1 hxs) (arr := (a1 ++ news).toArray ++ rest) (by simp) hge hsize
          exact ⟨_, _, S', hrun, k1, k2, k3⟩
  · trivial
end
end Go.Cl
