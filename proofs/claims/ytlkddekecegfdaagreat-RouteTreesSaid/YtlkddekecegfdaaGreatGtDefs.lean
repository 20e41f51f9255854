/- Printed: functions of the given program as functions over plain data, and that the machine does what they say; no claim of its own; no condition. -/
import Derived.Test.YtlkddekecegfdaaGreatLfN
set_option maxRecDepth 100000
set_option maxHeartbeats 4000000
set_option linter.unusedVariables false
set_option linter.unusedSimpArgs false
namespace Go.AM
open Go

structure ApiLink where
  A : Int
  B : Int
  Per : Int
  Delay : Int
  deriving Inhabited
def eApiLink : Enc ApiLink := eMap (fun s => (s.A, s.B, s.Per, s.Delay, ())) (ePair (eInt .i64) (ePair (eInt .i64) (ePair (eInt .i64) (ePair (eInt .i64) eUnit))))
theorem eApiLink_el {φ : Fz} {cs : List Value} {x : ApiLink} (h : eApiLink.R φ cs x) : cs = [.int .i64 x.A, .int .i64 x.B, .int .i64 x.Per, .int .i64 x.Delay] := by
  obtain ⟨p1, r1, e1, g1, p2, r2, e2, g2, p3, r3, e3, g3, p4, r4, e4, g4, gl⟩ := h
  have gl : r4 = [] := gl
  have g1 : p1 = [.int .i64 x.A] := g1
  have g2 : p2 = [.int .i64 x.B] := g2
  have g3 : p3 = [.int .i64 x.Per] := g3
  have g4 : p4 = [.int .i64 x.Delay] := g4
  subst gl
  subst g1 g2 g3 g4
  subst e4
  subst e3
  subst e2
  subst e1
  exact rfl
structure ApiTopo where
  Nodes : Int
  Station : (List Bool)
  Links : (List ApiLink)
  deriving Inhabited
def eApiTopo : Enc ApiTopo := eMap (fun s => (s.Nodes, s.Station, s.Links, ())) (ePair (eInt .i64) (ePair (eSl eBool) (ePair (eSl eApiLink) eUnit)))
theorem eApiTopo_el {φ : Fz} {cs : List Value} {x : ApiTopo} (h : eApiTopo.R φ cs x) : ∃ a26337 n26337 c26337, ∃ a26338 n26338 c26338, cs = [.int .i64 x.Nodes, .slice a26337 n26337 c26337, .slice a26338 n26338 c26338] ∧ RSl eBool φ (.slice a26337 n26337 c26337) x.Station ∧ RSl eApiLink φ (.slice a26338 n26338 c26338) x.Links := by
  obtain ⟨p1, r1, e1, g1, p2, r2, e2, g2, p3, r3, e3, g3, gl⟩ := h
  have gl : r3 = [] := gl
  have g1 : p1 = [.int .i64 x.Nodes] := g1
  obtain ⟨a2, n2, c2, g2, R2⟩ := g2
  obtain ⟨a3, n3, c3, g3, R3⟩ := g3
  subst gl
  subst g1 g2 g3
  subst e3
  subst e2
  subst e1
  exact ⟨a2, n2, c2, a3, n3, c3, rfl, R2, R3⟩
structure TopoEnd where
  Link : ApiLink
  port : Int
  deriving Inhabited
def eTopoEnd : Enc TopoEnd := eMap (fun s => (s.Link, s.port, ())) (ePair eApiLink (ePair (eInt .i64) eUnit))
theorem eTopoEnd_el {φ : Fz} {cs : List Value} {x : TopoEnd} (h : eTopoEnd.R φ cs x) : cs = [.int .i64 x.Link.A, .int .i64 x.Link.B, .int .i64 x.Link.Per, .int .i64 x.Link.Delay, .int .i64 x.port] := by
  obtain ⟨p1, r1, e1, g1, p2, r2, e2, g2, gl⟩ := h
  have gl : r2 = [] := gl
  obtain g1 := eApiLink_el g1
  have g2 : p2 = [.int .i64 x.port] := g2
  subst gl
  subst g1 g2
  subst e2
  subst e1
  exact rfl
structure RouteWalk where
  Topo : ApiTopo
  deriving Inhabited
def eRouteWalk : Enc RouteWalk := eMap (fun s => (s.Topo, ())) (ePair eApiTopo eUnit)
theorem eRouteWalk_el {φ : Fz} {cs : List Value} {x : RouteWalk} (h : eRouteWalk.R φ cs x) : ∃ a26339 n26339 c26339, ∃ a26340 n26340 c26340, cs = [.int .i64 x.Topo.Nodes, .slice a26339 n26339 c26339, .slice a26340 n26340 c26340] ∧ RSl eBool φ (.slice a26339 n26339 c26339) x.Topo.Station ∧ RSl eApiLink φ (.slice a26340 n26340 c26340) x.Topo.Links := by
  obtain ⟨p1, r1, e1, g1, gl⟩ := h
  have gl : r1 = [] := gl
  obtain ⟨a1_0, n1_0, c1_0, a1_1, n1_1, c1_1, g1, R1_0, R1_1⟩ := eApiTopo_el g1
  subst gl
  subst g1
  subst e1
  exact ⟨a1_0, n1_0, c1_0, a1_1, n1_1, c1_1, rfl, R1_0, R1_1⟩


/-! isochron/isochronlaw21.line -/
def m_isochronlaw21_line : R ApiTopo :=
  .ok ((ApiTopo.mk 4 [true, false, false, true] [(ApiLink.mk 0 1 8 50), (ApiLink.mk 1 2 8 0), (ApiLink.mk 2 3 80 7)]))

/-! isochron/topo.isNode -/
def m_topo_isNode (p130 : ApiTopo) (p133 : Int) : R Bool :=
  sh ((decide (0 ≤ p133)) && (decide (p133 < p130.Nodes))) fun (s139 : Bool) =>
  (.ok s139)

/-! isochron/topo.validLink -/
def m_topo_validLink_l1 (e115 : ApiLink) (p103 : ApiTopo) (p106 : Int) (rec272 : Int → R Bool) (s244 : Int) : R Bool :=
  if (decide (s244 < ((p103.Links.take (p106).toNat).length : Int))) then (bindR (idx (p103.Links.take (p106).toNat) s244) fun e278 =>
  sh ((decide (e278.A = e115.A)) && (decide (e278.B = e115.B))) fun (s286 : Bool) =>
  (sh (s286 || ((decide (e278.A = e115.B)) && (decide (e278.B = e115.A)))) fun (s290 : Bool) =>
  (if s290 then (if (!(!(decide (0 ≤ s244)))) then (.ok false)
  else (.ok true))
  else (rec272 (w64 (s244 + 1))))))
  else (.ok true)
def m_topo_validLink (p103 : ApiTopo) (p106 : Int) : R Bool :=
  bindR (idx p103.Links p106) fun e115 =>
  bindR (m_topo_isNode p103 (e115.A)) fun e145 =>
  sh (fun (s155 : Bool) => (sh (s155 && (decide (e115.A ≠ e115.B))) fun (s159 : Bool) =>
  (if (!s159) then (.ok false)
  else (bindR (idx p103.Station e115.A) fun e163 =>
  sh (fun (s171 : Bool) => (if (!s171) then (.ok false)
  else (sh ((decide (1 ≤ e115.Per)) && (decide (e115.Per ≤ 1000))) fun (s176 : Bool) =>
  (sh (s176 && (decide (0 ≤ e115.Delay))) fun (s180 : Bool) =>
  (sh (s180 && (decide (e115.Delay ≤ 10000))) fun (s184 : Bool) =>
  (if (!s184) then (.ok false)
  else (bindR (must (decide (0 ≤ p106 ∧ p106 ≤ (p103.Links.length : Int)))) fun _ =>
  loopM (m_topo_validLink_l1 e115 p103 p106) LL 0))))))) fun j311 =>
  (if (!e163) then (j311 true)
  else (bindR (idx p103.Station e115.B) fun e314 =>
  j311 (!e314))))))) fun j320 =>
  (if e145 then (bindR (m_topo_isNode p103 (e115.B)) fun e323 =>
  j320 e323)
  else (j320 false))

/-! (isochron/topo.end).from -/
def m_topo_end_from (p393 : TopoEnd) : R Int :=
  if (decide ((Int.tmod p393.port 2) = 0)) then (.ok (p393.Link.A))
  else (.ok (p393.Link.B))

/-! isochron/topo.degree -/
def m_topo_degree_l1 (p341 : ApiTopo) (p344 : Int) (rec572 : (Int × Int) → R Int) (s507 : Int × Int) : R Int :=
  if (decide (s507.1 < (p341.Links.length : Int))) then (bindR (idx p341.Links s507.1) fun e578 =>
  bindR (m_topo_end_from ((TopoEnd.mk e578 (w64 (2 * s507.1))))) fun e596 =>
  sh (fun (s603 : Int) => (bindR (m_topo_end_from ((TopoEnd.mk e578 (w64 ((w64 (2 * s507.1)) + 1))))) fun e619 =>
  sh (fun (s626 : Int) => (rec572 ((w64 (s507.1 + 1)), s626))) fun j629 =>
  (if (decide (e619 = p344)) then (j629 (w64 (s603 + 1)))
  else (j629 s603)))) fun j606 =>
  (if (decide (e596 = p344)) then (j606 (w64 (s507.2 + 1)))
  else (j606 s507.2)))
  else (.ok (s507.2))
def m_topo_degree (p341 : ApiTopo) (p344 : Int) : R Int :=
  loopM (m_topo_degree_l1 p341 p344) LL (0, 0)

/-! (isochron/topo.end).to -/
def m_topo_end_to (p729 : TopoEnd) : R Int :=
  bindR (m_topo_end_from p729) fun e734 =>
  .ok ((w64 ((w64 (p729.Link.A + p729.Link.B)) - e734)))

/-! slices.Index[[]int,int] -/
def m_slices_Index_int_int_l1 (p741 : (List Int)) (p743 : Int) (rec768 : Int → R Int) (s760 : Int) : R Int :=
  if (decide (s760 < (p741.length : Int))) then (bindR (idx p741 s760) fun e774 =>
  if (decide (p743 = e774)) then (.ok s760)
  else (rec768 (w64 (s760 + 1))))
  else (.ok ((-1)))
def m_slices_Index_int_int (p741 : (List Int)) (p743 : Int) : R Int :=
  loopM (m_slices_Index_int_int_l1 p741 p743) LL 0

/-! slices.Contains[[]int,int] -/
def m_slices_Contains_int_int (p738 : (List Int)) (p740 : Int) : R Bool :=
  bindR (m_slices_Index_int_int p738 p740) fun e778 =>
  .ok ((decide (0 ≤ e778)))

/-! isochron/topo.reach -/
def m_topo_reach_l1 (p3335 : ApiTopo) (p3339 : (List Int)) (rec5304 : (List Bool) → R (List Bool)) (rec5794 : (Int × (List Bool)) → R (List Bool)) (s5636 : Int × (List Bool)) : R (List Bool) :=
  if (decide (s5636.1 < (p3335.Links.length : Int))) then (bindR (idx p3335.Links s5636.1) fun e5800 =>
  bindR (m_topo_end_from ((TopoEnd.mk e5800 (w64 (2 * s5636.1))))) fun e5818 =>
  bindR (idx s5636.2 e5818) fun e5822 =>
  sh (fun (s5834 : Bool) => (sh (fun (s5843 : Bool) => (if s5843 then (bindR (m_topo_end_to ((TopoEnd.mk e5800 (w64 (2 * s5636.1))))) fun e5847 =>
  bindR (idx s5636.2 e5847) fun e5851 =>
  rec5304 (s5636.2.set (e5847).toNat true))
  else (bindR (m_topo_end_from ((TopoEnd.mk e5800 (w64 ((w64 (2 * s5636.1)) + 1))))) fun e5872 =>
  bindR (idx s5636.2 e5872) fun e5876 =>
  sh (fun (s5888 : Bool) => (sh (fun (s5897 : Bool) => (if s5897 then (bindR (m_topo_end_to ((TopoEnd.mk e5800 (w64 ((w64 (2 * s5636.1)) + 1))))) fun e5901 =>
  bindR (idx s5636.2 e5901) fun e5905 =>
  rec5304 (s5636.2.set (e5901).toNat true))
  else (rec5794 ((w64 (s5636.1 + 1)), s5636.2)))) fun j5917 =>
  (if s5888 then (bindR (m_slices_Contains_int_int p3339 ((w64 (Int.tdiv (w64 ((w64 (2 * s5636.1)) + 1)) 2)))) fun e5920 =>
  j5917 (!e5920))
  else (j5917 false)))) fun j5924 =>
  (if e5876 then (bindR (m_topo_end_to ((TopoEnd.mk e5800 (w64 ((w64 (2 * s5636.1)) + 1))))) fun e5927 =>
  bindR (idx s5636.2 e5927) fun e5931 =>
  j5924 (!e5931))
  else (j5924 false))))) fun j5934 =>
  (if s5834 then (bindR (m_slices_Contains_int_int p3339 ((w64 (Int.tdiv (w64 (2 * s5636.1)) 2)))) fun e5937 =>
  j5934 (!e5937))
  else (j5934 false)))) fun j5941 =>
  (if e5822 then (bindR (m_topo_end_to ((TopoEnd.mk e5800 (w64 (2 * s5636.1))))) fun e5944 =>
  bindR (idx s5636.2 e5944) fun e5948 =>
  j5941 (!e5948))
  else (j5941 false)))
  else (.ok (s5636.2))
def m_topo_reach_l2 (p3335 : ApiTopo) (p3339 : (List Int)) (rec5304 : (List Bool) → R (List Bool)) (s4656 : (List Bool)) : R (List Bool) :=
  loopM (m_topo_reach_l1 p3335 p3339 rec5304) LL (0, s4656)
def m_topo_reach (p3335 : ApiTopo) (p3338 : Int) (p3339 : (List Int)) : R (List Bool) :=
  bindR (must (decide (0 ≤ p3335.Nodes ∧ p3335.Nodes ≤ 1000000000))) fun _ =>
  bindR (idx (List.replicate (p3335.Nodes).toNat false) p3338) fun e3357 =>
  loopM (m_topo_reach_l2 p3335 p3339) LL ((List.replicate (p3335.Nodes).toNat false).set (p3338).toNat true)

/-! slices.Index[[]bool,bool] -/
def m_slices_Index_bool_bool_l1 (p5967 : (List Bool)) (p5969 : Bool) (rec5994 : Int → R Int) (s5986 : Int) : R Int :=
  if (decide (s5986 < (p5967.length : Int))) then (bindR (idx p5967 s5986) fun e6000 =>
  if (p5969 == e6000) then (.ok s5986)
  else (rec5994 (w64 (s5986 + 1))))
  else (.ok ((-1)))
def m_slices_Index_bool_bool (p5967 : (List Bool)) (p5969 : Bool) : R Int :=
  loopM (m_slices_Index_bool_bool_l1 p5967 p5969) LL 0

/-! slices.Contains[[]bool,bool] -/
def m_slices_Contains_bool_bool (p5964 : (List Bool)) (p5966 : Bool) : R Bool :=
  bindR (m_slices_Index_bool_bool p5964 p5966) fun e6004 =>
  .ok ((decide (0 ≤ e6004)))

/-! isochron/topo.Check -/
def m_topo_Check_l1 (p79 : ApiTopo) (rec6780 : Int → R Int) (s6728 : Int) : R Int :=
  if (decide (s6728 < (p79.Station.length : Int))) then (bindR (idx p79.Station s6728) fun e6786 =>
  sh (fun (s6800 : Bool) => (if s6800 then (.ok 260)
  else (rec6780 (w64 (s6728 + 1))))) fun j6804 =>
  (if e6786 then (bindR (m_topo_degree p79 s6728) fun e6807 =>
  if (decide (e6807 < 1)) then (j6804 true)
  else (bindR (m_topo_degree p79 s6728) fun e6812 =>
  j6804 (decide (2 < e6812))))
  else (j6804 false)))
  else (bindR (m_topo_reach p79 0 ([])) fun e6816 =>
  bindR (m_slices_Contains_bool_bool e6816 false) fun e6829 =>
  if e6829 then (.ok 260)
  else (.ok 0))
def m_topo_Check_l2 (p79 : ApiTopo) (rec6613 : Int → R Int) (s6394 : Int) : R Int :=
  if (decide (s6394 < (p79.Links.length : Int))) then (bindR (m_topo_validLink p79 s6394) fun e6619 =>
  if (!e6619) then (.ok 260)
  else (rec6613 (w64 (s6394 + 1))))
  else (loopM (m_topo_Check_l1 p79) LL 0)
def m_topo_Check (p79 : ApiTopo) : R Int :=
  sh ((decide (p79.Nodes < 2)) || (decide (12 < p79.Nodes))) fun (s87 : Bool) =>
  (sh (s87 || (decide ((p79.Station.length : Int) ≠ p79.Nodes))) fun (s91 : Bool) =>
  (sh (s91 || (decide (24 < (p79.Links.length : Int)))) fun (s95 : Bool) =>
  (if s95 then (.ok 260)
  else (loopM (m_topo_Check_l2 p79) LL 0))))

/-! isochron/topo.From -/
def m_topo_From (p6967 : ApiTopo) (p6970 : Int) : R (Int × Int) :=
  bindR (m_topo_Check p6967) fun e6979 =>
  if (decide (e6979 ≠ 0)) then (.ok (0, e6979))
  else (sh ((decide (p6970 < 0)) || (decide ((w64 (2 * (p6967.Links.length : Int))) ≤ p6970))) fun (s6985 : Bool) =>
  (if s6985 then (.ok (0, 2))
  else (bindR (idx p6967.Links (w64 (Int.tdiv p6970 2))) fun e6989 =>
  bindR (m_topo_end_from ((TopoEnd.mk e6989 p6970))) fun e6992 =>
  .ok (e6992, 0))))

/-! (isochron/route.walk).from -/
def m_route_walk_from (p6959 : RouteWalk) (p6962 : Int) : R Int :=
  bindR (m_topo_From (p6959.Topo) p6962) fun e6999 =>
  .ok (e6999.1)

/-! isochron/topo.To -/
def m_topo_To (p7052 : ApiTopo) (p7055 : Int) : R (Int × Int) :=
  bindR (m_topo_Check p7052) fun e7064 =>
  if (decide (e7064 ≠ 0)) then (.ok (0, e7064))
  else (sh ((decide (p7055 < 0)) || (decide ((w64 (2 * (p7052.Links.length : Int))) ≤ p7055))) fun (s7070 : Bool) =>
  (if s7070 then (.ok (0, 2))
  else (bindR (idx p7052.Links (w64 (Int.tdiv p7055 2))) fun e7074 =>
  bindR (m_topo_end_to ((TopoEnd.mk e7074 p7055))) fun e7077 =>
  .ok (e7077, 0))))

/-! (isochron/route.walk).valid -/
def m_route_walk_valid_l1 (p6854 : RouteWalk) (p6857 : (List Int)) (rec7342 : (Int × (List Int)) → R Bool) (s7252 : Int × (List Int)) : R Bool :=
  if (decide (s7252.1 < (p6857.length : Int))) then (bindR (idx p6857 s7252.1) fun e7348 =>
  bindR (m_topo_To (p6854.Topo) e7348) fun e7355 =>
  bindR (m_slices_Contains_int_int (s7252.2) (e7355.1)) fun e7366 =>
  sh (fun (s7383 : Bool × (List Int)) => (sh (fun (s7394 : Bool) => (if s7394 then (.ok ((decide ((s7383.2.length : Int) = (w64 ((p6857.length : Int) + 1))))))
  else (bindR (must (okLen (s7383.2.length + ([e7355.1]).length))) fun _ =>
  rec7342 ((w64 (s7252.1 + 1)), (s7383.2 ++ ([e7355.1])))))) fun j7409 =>
  (if s7383.1 then (j7409 true)
  else (if (decide (0 < (s7252.2.length : Int))) then (if (decide ((s7252.2.length : Int) < (p6857.length : Int))) then (bindR (idx p6854.Topo.Station e7355.1) fun e7414 =>
  j7409 e7414)
  else (j7409 false))
  else (j7409 false))))) fun j7417 =>
  (if e7366 then (j7417 (true, s7252.2))
  else (if (decide (0 < (s7252.2.length : Int))) then (bindR (idx p6857 (w64 ((s7252.2.length : Int) - 1))) fun e7421 =>
  bindR (m_route_walk_from p6854 e7421) fun e7424 =>
  bindR (idx s7252.2 (w64 ((s7252.2.length : Int) - 1))) fun e7428 =>
  j7417 ((decide (e7424 ≠ e7428)), s7252.2))
  else (j7417 (false, s7252.2)))))
  else (.ok ((decide ((s7252.2.length : Int) = (w64 ((p6857.length : Int) + 1))))))
def m_route_walk_valid_l2 (j7439 : Bool → R Bool) (p6854 : RouteWalk) (p6857 : (List Int)) (rec7487 : Int → R Bool) (s7472 : Int) : R Bool :=
  if (decide (s7472 < (p6857.length : Int))) then (bindR (idx p6857 s7472) fun e7493 =>
  sh ((decide (e7493 < 0)) || (decide ((w64 (2 * (p6854.Topo.Links.length : Int))) ≤ e7493))) fun (s7497 : Bool) =>
  (if s7497 then (j7439 (decide (0 ≤ s7472)))
  else (rec7487 (w64 (s7472 + 1)))))
  else (j7439 false)
def m_route_walk_valid (p6854 : RouteWalk) (p6857 : (List Int)) : R Bool :=
  sh ((decide ((p6857.length : Int) < 1)) || (decide (8 < (p6857.length : Int)))) fun (s6868 : Bool) =>
  (sh (fun (s6935 : Bool) => (if s6935 then (.ok false)
  else (bindR (idx p6857 0) fun e7003 =>
  bindR (m_route_walk_from p6854 e7003) fun e7006 =>
  bindR (m_slices_Contains_int_int ([]) e7006) fun e7013 =>
  sh (fun (s7019 : Bool) => (sh (fun (s7024 : Bool) => (if s7024 then (.ok ((decide (0 = (w64 ((p6857.length : Int) + 1))))))
  else (bindR (must (okLen (([] : List Int).length + ([e7006]).length))) fun _ =>
  loopM (m_route_walk_valid_l1 p6854 p6857) LL (0, (([] : List Int) ++ ([e7006])))))) fun j7433 =>
  (if s7019 then (j7433 true)
  else (j7433 false)))) fun j7436 =>
  (if e7013 then (j7436 true)
  else (j7436 false))))) fun j7439 =>
  (if s6868 then (j7439 true)
  else (loopM (m_route_walk_valid_l2 j7439 p6854 p6857) LL 0)))

/-! isochron/route.Check -/
def m_route_Check (p70 : ApiTopo) (p73 : (List Int)) : R Int :=
  bindR (m_topo_Check p70) fun e6843 =>
  if (decide (e6843 ≠ 0)) then (.ok e6843)
  else (bindR (m_route_walk_valid ((RouteWalk.mk p70)) p73) fun e7507 =>
  if (!e7507) then (.ok 310)
  else (.ok 0))

/-! (isochron/route.walk).list -/
def m_route_walk_list_l1 (p7681 : RouteWalk) (p7684 : (List Int)) (rec7812 : (Int × (List Int)) → R (List Int)) (s7784 : Int × (List Int)) : R (List Int) :=
  if (decide (s7784.1 < (p7684.length : Int))) then (bindR (idx p7684 s7784.1) fun e7818 =>
  bindR (m_topo_To (p7681.Topo) e7818) fun e7825 =>
  bindR (must (okLen (s7784.2.length + ([e7825.1]).length))) fun _ =>
  rec7812 ((w64 (s7784.1 + 1)), (s7784.2 ++ ([e7825.1]))))
  else (.ok (s7784.2))
def m_route_walk_list (p7681 : RouteWalk) (p7684 : (List Int)) : R (List Int) :=
  bindR (idx p7684 0) fun e7710 =>
  bindR (m_route_walk_from p7681 e7710) fun e7713 =>
  bindR (must (okLen (([] : List Int).length + ([e7713]).length))) fun _ =>
  loopM (m_route_walk_list_l1 p7681 p7684) LL (0, (([] : List Int) ++ ([e7713])))

/-! isochron/route.Nodes -/
def m_route_Nodes (p7852 : ApiTopo) (p7855 : (List Int)) : R ((List Int) × Int) :=
  bindR (m_route_Check p7852 p7855) fun e7869 =>
  if (decide (e7869 ≠ 0)) then (.ok ([], e7869))
  else (bindR (m_route_walk_list ((RouteWalk.mk p7852)) p7855) fun e7878 =>
  .ok (e7878, 0))

/-! isochron/route.Ends -/
def m_route_Ends (p7912 : ApiTopo) (p7915 : (List Int)) : R (Int × Int × Int) :=
  bindR (m_route_Nodes p7912 p7915) fun e7921 =>
  if (decide (e7921.2 ≠ 0)) then (.ok (0, 0, e7921.2))
  else (bindR (idx e7921.1 0) fun e7931 =>
  bindR (idx e7921.1 (w64 ((e7921.1.length : Int) - 1))) fun e7934 =>
  .ok (e7931, e7934, 0))

/-! isochron/route.Delay$1 -/
def m_route_Delay_1 (p7991 : ApiLink) : R Int :=
  .ok (p7991.Delay)

/-! isochron/route.Delay -/
def m_route_Delay_l1 (p7947 : ApiTopo) (p7950 : (List Int)) (rec8028 : (Int × Int) → R (Int × Int)) (s8014 : Int × Int) : R (Int × Int) :=
  if (decide (s8014.2 < (p7950.length : Int))) then (bindR (idx p7950 s8014.2) fun e8034 =>
  bindR (idx p7947.Links (w64 (Int.tdiv e8034 2))) fun e8037 =>
  bindR (m_route_Delay_1 e8037) fun e8040 =>
  rec8028 ((w64 (s8014.1 + e8040)), (w64 (s8014.2 + 1))))
  else (.ok (s8014.1, 0))
def m_route_Delay (p7947 : ApiTopo) (p7950 : (List Int)) : R (Int × Int) :=
  bindR (m_route_Check p7947 p7950) fun e7972 =>
  if (decide (e7972 ≠ 0)) then (.ok (0, e7972))
  else (loopM (m_route_Delay_l1 p7947 p7950) LL (0, 0))

/-! isochron/route.Time -/
def m_route_Time_l1 (p8054 : ApiTopo) (p8057 : (List Int)) (p8059 : Int) (rec8145 : (Int × Int) → R (Int × Int)) (s8131 : Int × Int) : R (Int × Int) :=
  if (decide (s8131.2 < (p8057.length : Int))) then (bindR (idx p8057 s8131.2) fun e8151 =>
  bindR (idx p8054.Links (w64 (Int.tdiv e8151 2))) fun e8154 =>
  rec8145 ((w64 (s8131.1 + (w64 ((w64 (p8059 * e8154.Per)) + e8154.Delay)))), (w64 (s8131.2 + 1))))
  else (.ok (s8131.1, 0))
def m_route_Time (p8054 : ApiTopo) (p8057 : (List Int)) (p8059 : Int) : R (Int × Int) :=
  bindR (m_route_Check p8054 p8057) fun e8068 =>
  if (decide (e8068 ≠ 0)) then (.ok (0, e8068))
  else (sh ((decide (p8059 < 84)) || (decide (1542 < p8059))) fun (s8074 : Bool) =>
  (if s8074 then (.ok (0, 2))
  else (bindR (m_route_Check p8054 p8057) fun e8094 =>
  if (decide (e8094 ≠ 0)) then (.ok (0, e8094))
  else (loopM (m_route_Time_l1 p8054 p8057 p8059) LL (0, 0)))))

/-! isochron/route.Back -/
def m_route_Back_l1 (p8303 : (List Int)) (rec8405 : (Int × (List Int)) → R ((List Int) × Int)) (s8384 : Int × (List Int)) : R ((List Int) × Int) :=
  if (decide (0 ≤ s8384.1)) then (bindR (idx p8303 s8384.1) fun e8411 =>
  bindR (must (okLen (s8384.2.length + ([(bitXor .i64 e8411 1)]).length))) fun _ =>
  rec8405 ((w64 (s8384.1 - 1)), (s8384.2 ++ ([(bitXor .i64 e8411 1)]))))
  else (.ok (s8384.2, 0))
def m_route_Back (p8300 : ApiTopo) (p8303 : (List Int)) : R ((List Int) × Int) :=
  bindR (m_route_Check p8300 p8303) fun e8317 =>
  if (decide (e8317 ≠ 0)) then (.ok ([], e8317))
  else (loopM (m_route_Back_l1 p8303) LL ((w64 ((p8303.length : Int) - 1)), []))

/-! isochron/route.inner -/
def m_route_inner (p8531 : (List Int)) : R (List Int) :=
  bindR (must (decide (0 ≤ 1 ∧ 1 ≤ (w64 ((p8531.length : Int) - 1)) ∧ (w64 ((p8531.length : Int) - 1)) ≤ (w64 ((p8531.length : Int) - 1)) ∧ (w64 ((p8531.length : Int) - 1)) ≤ (p8531.length : Int) ∧ 0 < (p8531.length : Int) ∧ (p8531.length : Int) ≤ 1000000000))) fun _ =>
  .ok (((p8531.take ((w64 ((p8531.length : Int) - 1))).toNat).drop (1 : Int).toNat))

/-! isochron/route.meet -/
def m_route_meet_l1 (p8544 : (List Int)) (p8546 : (List Int)) (rec8588 : Int → R Bool) (s8576 : Int) : R Bool :=
  if (decide (s8576 < (p8544.length : Int))) then (bindR (idx p8544 s8576) fun e8594 =>
  bindR (m_slices_Contains_int_int p8546 e8594) fun e8597 =>
  if e8597 then (.ok ((decide (0 ≤ s8576))))
  else (rec8588 (w64 (s8576 + 1))))
  else (.ok false)
def m_route_meet (p8544 : (List Int)) (p8546 : (List Int)) : R Bool :=
  loopM (m_route_meet_l1 p8544 p8546) LL 0

/-! isochron/route.Apart -/
def m_route_Apart_l1 (e8460 : ((List Int) × Int)) (e8470 : ((List Int) × Int)) (e9534 : Int) (p8450 : (List Int)) (rec9528 : Int → R (Bool × Int)) (s9087 : Int) (rec9822 : Int → R (Bool × Int)) (s9728 : Int) : R (Bool × Int) :=
  if (decide (s9728 < (p8450.length : Int))) then (bindR (idx p8450 s9728) fun e9828 =>
  if (decide ((w64 (Int.tdiv e9534 2)) = (w64 (Int.tdiv e9828 2)))) then (if (decide (0 ≤ s9728)) then (sh (fun (s9852 : (List Int) × Bool) => (sh (fun (s9873 : Bool) => (.ok (s9873, 0))) fun j9878 =>
  (if s9852.2 then (bindR (m_route_inner (e8470.1)) fun e9885 =>
  bindR (m_route_meet e9885 (s9852.1)) fun e9890 =>
  j9878 (!e9890))
  else (j9878 false)))) fun j9894 =>
  (if (!(decide (0 ≤ s9087))) then (bindR (m_route_inner (e8460.1)) fun e9901 =>
  bindR (m_route_meet e9901 (e8470.1)) fun e9910 =>
  j9894 (e8460.1, (!e9910)))
  else (j9894 (e8460.1, false))))
  else (rec9528 (w64 (s9087 + 1))))
  else (rec9822 (w64 (s9728 + 1))))
  else (rec9528 (w64 (s9087 + 1)))
def m_route_Apart_l2 (e8460 : ((List Int) × Int)) (e8470 : ((List Int) × Int)) (p8448 : (List Int)) (p8450 : (List Int)) (rec9528 : Int → R (Bool × Int)) (s9087 : Int) : R (Bool × Int) :=
  if (decide (s9087 < (p8448.length : Int))) then (bindR (idx p8448 s9087) fun e9534 =>
  loopM (m_route_Apart_l1 e8460 e8470 e9534 p8450 rec9528 s9087) LL 0)
  else (bindR (m_route_inner (e8460.1)) fun e9922 =>
  bindR (m_route_meet e9922 (e8470.1)) fun e9931 =>
  sh (fun (s9950 : Bool) => (.ok (s9950, 0))) fun j9955 =>
  (if (!e9931) then (bindR (m_route_inner (e8470.1)) fun e9962 =>
  bindR (m_route_meet e9962 (e8460.1)) fun e9967 =>
  j9955 (!e9967))
  else (j9955 false)))
def m_route_Apart (p8445 : ApiTopo) (p8448 : (List Int)) (p8450 : (List Int)) : R (Bool × Int) :=
  bindR (m_route_Nodes p8445 p8448) fun e8460 =>
  if (decide (e8460.2 ≠ 0)) then (.ok (false, e8460.2))
  else (bindR (m_route_Nodes p8445 p8450) fun e8470 =>
  if (decide (e8470.2 ≠ 0)) then (.ok (false, e8470.2))
  else (loopM (m_route_Apart_l2 e8460 e8470 p8448 p8450) LL 0))

/-! isochron/route.Tree -/
def m_route_Tree_l1 (p14274 : ApiTopo) (p14277 : (List (List Int))) (s17998 : (List Int) × Bool × (List Int) × Int) (rec18485 : (Bool × Int) → R ((List Int) × Bool × Int)) (s18433 : Bool × Int) : R ((List Int) × Bool × Int) :=
  if (decide (s18433.2 < (p14277.length : Int))) then (bindR (idx p14277 s18433.2) fun e18491 =>
  sh (fun (s18515 : Bool) => (rec18485 (s18515, (w64 (s18433.2 + 1))))) fun j18518 =>
  (if s18433.1 then (bindR (idx e18491 0) fun e18521 =>
  bindR (m_route_walk_from ((RouteWalk.mk p14274)) e18521) fun e18524 =>
  bindR (idx p14277 0) fun e18528 =>
  bindR (idx e18528 0) fun e18532 =>
  bindR (m_route_walk_from ((RouteWalk.mk p14274)) e18532) fun e18535 =>
  j18518 (decide (e18524 = e18535)))
  else (j18518 false)))
  else (.ok (s17998.1, s18433.1, 0))
def m_route_Tree_l2 (e17502 : (List Int)) (p14274 : ApiTopo) (p14277 : (List (List Int))) (rec18269 : ((List Int) × Bool × (List Int) × Int) → R ((List Int) × Bool × Int)) (s17998 : (List Int) × Bool × (List Int) × Int) : R ((List Int) × Bool × Int) :=
  if (decide (s17998.2.2.2 < (e17502.length : Int))) then (bindR (idx s17998.1 s17998.2.2.2) fun e18275 =>
  sh (fun (s18296 : Bool) => (bindR (m_topo_To p14274 e18275) fun e18303 =>
  bindR (must (okLen (s17998.2.2.1.length + ([e18303.1]).length))) fun _ =>
  rec18269 (s17998.1, s18296, (s17998.2.2.1 ++ ([e18303.1])), (w64 (s17998.2.2.2 + 1))))) fun j18310 =>
  (if s17998.2.1 then (bindR (m_topo_To p14274 e18275) fun e18317 =>
  bindR (m_slices_Contains_int_int (s17998.2.2.1) (e18317.1)) fun e18325 =>
  j18310 (!e18325))
  else (j18310 false)))
  else (loopM (m_route_Tree_l1 p14274 p14277 s17998) LL (s17998.2.1, 0))
def m_route_Tree_l3 (p14274 : ApiTopo) (p14277 : (List (List Int))) (rec17478 : ((List Int) × Int) → R ((List Int) × Bool × Int)) (s16417 : (List Int) × Int) : R ((List Int) × Bool × Int) :=
  if (decide (s16417.2 < (p14277.length : Int))) then (bindR (idx p14277 s16417.2) fun e17484 =>
  bindR (m_route_walk_valid ((RouteWalk.mk p14274)) e17484) fun e17488 =>
  if (!e17488) then (.ok ([], false, 310))
  else (bindR (must (okLen (s16417.1.length + e17484.length))) fun _ =>
  rec17478 ((s16417.1 ++ e17484), (w64 (s16417.2 + 1)))))
  else (bindR (m_sort (s16417.1)) fun e17494 =>
  bindR (m_compact e17494) fun e17502 =>
  loopM (m_route_Tree_l2 e17502 p14274 p14277) LL (e17502, true, [], 0))
def m_route_Tree (p14274 : ApiTopo) (p14277 : (List (List Int))) : R ((List Int) × Bool × Int) :=
  bindR (m_topo_Check p14274) fun e14283 =>
  if (decide (e14283 ≠ 0)) then (.ok ([], false, e14283))
  else (loopM (m_route_Tree_l3 p14274 p14277) LL ([], 0))

/-! slices.Equal[[]int,int] -/
def m_slices_Equal_int_int_l1 (p18582 : (List Int)) (p18584 : (List Int)) (rec18620 : Int → R Bool) (s18609 : Int) : R Bool :=
  if (decide (s18609 < (p18582.length : Int))) then (bindR (idx p18582 s18609) fun e18626 =>
  bindR (idx p18584 s18609) fun e18629 =>
  if (decide (e18626 ≠ e18629)) then (.ok false)
  else (rec18620 (w64 (s18609 + 1))))
  else (.ok true)
def m_slices_Equal_int_int (p18582 : (List Int)) (p18584 : (List Int)) : R Bool :=
  if (decide ((p18582.length : Int) ≠ (p18584.length : Int))) then (.ok false)
  else (loopM (m_slices_Equal_int_int_l1 p18582 p18584) LL 0)

/-! slices.Equal[isochron/api.Route,int] -/
def m_slices_Equal_api_Route_int_l1 (p18668 : (List Int)) (p18670 : (List Int)) (rec18706 : Int → R Bool) (s18695 : Int) : R Bool :=
  if (decide (s18695 < (p18668.length : Int))) then (bindR (idx p18668 s18695) fun e18712 =>
  bindR (idx p18670 s18695) fun e18715 =>
  if (decide (e18712 ≠ e18715)) then (.ok false)
  else (rec18706 (w64 (s18695 + 1))))
  else (.ok true)
def m_slices_Equal_api_Route_int (p18668 : (List Int)) (p18670 : (List Int)) : R Bool :=
  if (decide ((p18668.length : Int) ≠ (p18670.length : Int))) then (.ok false)
  else (loopM (m_slices_Equal_api_Route_int_l1 p18668 p18670) LL 0)

/-! isochron/isochronlaw21.wakes -/
def m_isochronlaw21_wakes : R Bool :=
  bindR (m_isochronlaw21_line) fun e34 =>
  bindR (m_route_Nodes e34 ([0, 2, 4])) fun e7901 =>
  bindR (m_route_Ends e34 ([2, 4])) fun e7941 =>
  bindR (m_route_Delay e34 ([0, 2, 4])) fun e8048 =>
  bindR (m_route_Time e34 ([0, 2, 4]) 100) fun e8168 =>
  bindR (m_route_Back e34 ([0, 2, 4])) fun e8432 =>
  bindR (m_route_Apart e34 ([0]) ([2, 4])) fun e9979 =>
  bindR (m_route_Tree e34 ([[0, 2], [0, 2, 4]])) fun e18545 =>
  sh ((decide (e7901.2 = 0)) && (decide (e7941.2.2 = 0))) fun (s18555 : Bool) =>
  (sh (s18555 && (decide (e8048.2 = 0))) fun (s18559 : Bool) =>
  (sh (s18559 && (decide (e8168.2 = 0))) fun (s18563 : Bool) =>
  (sh (s18563 && (decide (e8432.2 = 0))) fun (s18567 : Bool) =>
  (sh (s18567 && (decide (e9979.2 = 0))) fun (s18571 : Bool) =>
  (sh (s18571 && (decide (e18545.2.2 = 0))) fun (s18575 : Bool) =>
  (sh (fun (s18645 : Bool) => (sh (s18645 && (decide (e7941.1 = 1))) fun (s18649 : Bool) =>
  (sh (s18649 && (decide (e7941.2.1 = 3))) fun (s18653 : Bool) =>
  (sh (s18653 && (decide (e8048.1 = 57))) fun (s18657 : Bool) =>
  (sh (s18657 && (decide (e8168.1 = 9657))) fun (s18661 : Bool) =>
  (sh (fun (s18731 : Bool) => (sh (s18731 && e9979.1) fun (s18735 : Bool) =>
  (sh (fun (s18754 : Bool) => (sh (s18754 && e18545.2.1) fun (s18758 : Bool) =>
  (sh (fun (s18773 : Bool) => (.ok s18773)) fun j18776 =>
  (if s18758 then (bindR (m_route_Check e34 ([0, 4])) fun e18785 =>
  j18776 (decide (e18785 = 310)))
  else (j18776 false))))) fun j18792 =>
  (if s18735 then (bindR (m_slices_Equal_int_int (e18545.1) ([0, 2, 4])) fun e18805 =>
  j18792 e18805)
  else (j18792 false))))) fun j18812 =>
  (if s18661 then (bindR (m_slices_Equal_api_Route_int (e8432.1) ([5, 3, 1])) fun e18825 =>
  j18812 e18825)
  else (j18812 false)))))))) fun j18841 =>
  (if s18575 then (bindR (m_slices_Equal_int_int (e7901.1) ([0, 1, 2, 3])) fun e18854 =>
  j18841 e18854)
  else (j18841 false))))))))

/-! isochron/isochronlaw21.few -/
def m_isochronlaw21_few (p18900 : ApiTopo) : R ApiTopo :=
  bindR (must (decide (0 ≤ (min (p18900.Station.length : Int) 20) ∧ (min (p18900.Station.length : Int) 20) ≤ (p18900.Station.length : Int)))) fun _ =>
  bindR (must (decide (0 ≤ (min (p18900.Links.length : Int) 30) ∧ (min (p18900.Links.length : Int) 30) ≤ (p18900.Links.length : Int)))) fun _ =>
  .ok ((ApiTopo.mk p18900.Nodes (p18900.Station.take ((min (p18900.Station.length : Int) 20)).toNat) (p18900.Links.take ((min (p18900.Links.length : Int) 30)).toNat)))

/-! isochron/isochronlaw21.cut -/
def m_isochronlaw21_cut (p18944 : (List Int)) : R (List Int) :=
  bindR (must (decide (0 ≤ (min (p18944.length : Int) 12) ∧ (min (p18944.length : Int) 12) ≤ (p18944.length : Int)))) fun _ =>
  bindR (must (okLen (([] : List Int).length + (p18944.take ((min (p18944.length : Int) 12)).toNat).length))) fun _ =>
  .ok ((([] : List Int) ++ (p18944.take ((min (p18944.length : Int) 12)).toNat)))

/-! isochron/isochronref16.node -/
def m_isochronref16_node (p19035 : ApiTopo) (p19038 : Int) : R Bool :=
  sh ((decide (0 ≤ p19038)) && (decide (p19038 < p19035.Nodes))) fun (s19044 : Bool) =>
  (.ok s19044)

/-! isochron/isochronref16.link -/
def m_isochronref16_link (p19023 : ApiTopo) (p19026 : ApiLink) : R Bool :=
  bindR (m_isochronref16_node p19023 (p19026.A)) fun e19050 =>
  sh (fun (s19060 : Bool) => (sh (s19060 || (decide (p19026.A = p19026.B))) fun (s19064 : Bool) =>
  (sh (fun (s19076 : Bool) => (if s19076 then (.ok false)
  else (sh ((decide (1 ≤ p19026.Per)) && (decide (p19026.Per ≤ 1000))) fun (s19081 : Bool) =>
  (sh (s19081 && (decide (0 ≤ p19026.Delay))) fun (s19085 : Bool) =>
  (sh (s19085 && (decide (p19026.Delay ≤ 10000))) fun (s19089 : Bool) =>
  (.ok s19089)))))) fun j19101 =>
  (if s19064 then (j19101 true)
  else (bindR (idx p19023.Station p19026.A) fun e19104 =>
  if e19104 then (bindR (idx p19023.Station p19026.B) fun e19108 =>
  j19101 e19108)
  else (j19101 false)))))) fun j19114 =>
  (if (!e19050) then (j19114 true)
  else (bindR (m_isochronref16_node p19023 (p19026.B)) fun e19117 =>
  j19114 (!e19117)))

/-! isochron/isochronref16.In -/
def m_isochronref16_In_l1 (p19226 : (List Int)) (p19228 : Int) (rec19253 : Int → R Bool) (s19245 : Int) : R Bool :=
  if (decide (s19245 < (p19226.length : Int))) then (bindR (idx p19226 s19245) fun e19259 =>
  if (decide (e19259 = p19228)) then (.ok true)
  else (rec19253 (w64 (s19245 + 1))))
  else (.ok false)
def m_isochronref16_In (p19226 : (List Int)) (p19228 : Int) : R Bool :=
  loopM (m_isochronref16_In_l1 p19226 p19228) LL 0

/-! isochron/isochronref16.Reach -/
def m_isochronref16_Reach_l1 (p20417 : ApiTopo) (p20421 : (List Int)) (rec21312 : ((List Bool) × Int) → R (List Bool)) (s21019 : (List Bool) × Int) (rec21533 : ((List Bool) × Int) → R (List Bool)) (s21461 : (List Bool) × Int) : R (List Bool) :=
  if (decide (s21461.2 < (p20417.Links.length : Int))) then (bindR (idx p20417.Links s21461.2) fun e21539 =>
  bindR (m_isochronref16_In p20421 (s21461.2)) fun e21548 =>
  sh (fun (s21561 : (List Bool) × Bool) => (sh (fun (s21578 : (List Bool)) => (rec21533 (s21578, (w64 (s21461.2 + 1))))) fun j21582 =>
  (if s21561.2 then (bindR (idx s21561.1 e21539.A) fun e21584 =>
  bindR (idx (s21561.1.set (e21539.A).toNat true) e21539.B) fun e21590 =>
  j21582 ((s21561.1.set (e21539.A).toNat true).set (e21539.B).toNat true))
  else (j21582 s21561.1)))) fun j21596 =>
  (if (!e21548) then (bindR (idx s21461.1 e21539.A) fun e21599 =>
  if e21599 then (j21596 (s21461.1, true))
  else (bindR (idx s21461.1 e21539.B) fun e21603 =>
  j21596 (s21461.1, e21603)))
  else (j21596 (s21461.1, false))))
  else (rec21312 (s21461.1, (w64 (s21019.2 + 1))))
def m_isochronref16_Reach_l2 (p20417 : ApiTopo) (p20421 : (List Int)) (rec21312 : ((List Bool) × Int) → R (List Bool)) (s21019 : (List Bool) × Int) : R (List Bool) :=
  if (decide (s21019.2 < p20417.Nodes)) then (loopM (m_isochronref16_Reach_l1 p20417 p20421 rec21312 s21019) LL (s21019.1, 0))
  else (.ok (s21019.1))
def m_isochronref16_Reach (p20417 : ApiTopo) (p20420 : Int) (p20421 : (List Int)) : R (List Bool) :=
  bindR (must (decide (0 ≤ p20417.Nodes ∧ p20417.Nodes ≤ 1000000000))) fun _ =>
  bindR (idx (List.replicate (p20417.Nodes).toNat false) p20420) fun e20429 =>
  loopM (m_isochronref16_Reach_l2 p20417 p20421) LL (((List.replicate (p20417.Nodes).toNat false).set (p20420).toNat true), 0)

/-! isochron/isochronref16.Joins -/
def m_isochronref16_Joins (p21796 : ApiLink) (p21797 : Int) (p21798 : Int) : R Bool :=
  sh ((decide (p21796.A = p21797)) && (decide (p21796.B = p21798))) fun (s21804 : Bool) =>
  (sh (s21804 || ((decide (p21796.A = p21798)) && (decide (p21796.B = p21797)))) fun (s21808 : Bool) =>
  (.ok s21808))

/-! isochron/isochronref16.Right -/
def m_isochronref16_Right_l1 (e22425 : ApiLink) (p18988 : ApiTopo) (rec22419 : ((List Int) × Int) → R Bool) (s22107 : (List Int) × Int) (rec22529 : Int → R Bool) (s22499 : Int) : R Bool :=
  if (decide (s22499 < s22107.2)) then (bindR (idx p18988.Links s22499) fun e22535 =>
  bindR (m_isochronref16_Joins e22535 (e22425.A) (e22425.B)) fun e22538 =>
  if e22538 then (.ok false)
  else (rec22529 (w64 (s22499 + 1))))
  else (bindR (idx s22107.1 e22425.A) fun e22543 =>
  bindR (idx s22107.1 e22425.A) fun e22546 =>
  bindR (idx (s22107.1.set (e22425.A).toNat (w64 (e22543 + 1))) e22425.B) fun e22552 =>
  bindR (idx (s22107.1.set (e22425.A).toNat (w64 (e22543 + 1))) e22425.B) fun e22555 =>
  rec22419 (((s22107.1.set (e22425.A).toNat (w64 (e22543 + 1))).set (e22425.B).toNat (w64 (e22552 + 1))), (w64 (s22107.2 + 1))))
def m_isochronref16_Right_l2 (p18988 : ApiTopo) (rec22691 : ((List Int) × (List Bool) × Int) → R Bool) (s22650 : (List Int) × (List Bool) × Int) : R Bool :=
  if (decide (s22650.2.2 < p18988.Nodes)) then (bindR (idx s22650.2.1 s22650.2.2) fun e22697 =>
  sh (fun (s22713 : (List Int) × Bool) => (if s22713.2 then (.ok false)
  else (rec22691 (s22713.1, s22650.2.1, (w64 (s22650.2.2 + 1)))))) fun j22718 =>
  (if (!e22697) then (j22718 (s22650.1, true))
  else (bindR (idx p18988.Station s22650.2.2) fun e22721 =>
  if e22721 then (bindR (idx s22650.1 s22650.2.2) fun e22725 =>
  if (decide (e22725 < 1)) then (j22718 (s22650.1, true))
  else (bindR (idx s22650.1 s22650.2.2) fun e22729 =>
  j22718 (s22650.1, (decide (2 < e22729)))))
  else (j22718 (s22650.1, false)))))
  else (.ok true)
def m_isochronref16_Right_l3 (p18988 : ApiTopo) (rec22419 : ((List Int) × Int) → R Bool) (s22107 : (List Int) × Int) : R Bool :=
  if (decide (s22107.2 < (p18988.Links.length : Int))) then (bindR (idx p18988.Links s22107.2) fun e22425 =>
  bindR (m_isochronref16_link p18988 e22425) fun e22434 =>
  if (!e22434) then (.ok false)
  else (loopM (m_isochronref16_Right_l1 e22425 p18988 rec22419 s22107) LL 0))
  else (bindR (m_isochronref16_Reach p18988 0 ([])) fun e22561 =>
  loopM (m_isochronref16_Right_l2 p18988) LL (s22107.1, e22561, 0))
def m_isochronref16_Right (p18988 : ApiTopo) : R Bool :=
  sh ((decide (p18988.Nodes < 2)) || (decide (12 < p18988.Nodes))) fun (s18996 : Bool) =>
  (sh (s18996 || (decide ((p18988.Station.length : Int) ≠ p18988.Nodes))) fun (s19000 : Bool) =>
  (sh (s19000 || (decide (24 < (p18988.Links.length : Int)))) fun (s19004 : Bool) =>
  (if s19004 then (.ok false)
  else (bindR (must (decide (0 ≤ p18988.Nodes ∧ p18988.Nodes ≤ 1000000000))) fun _ =>
  loopM (m_isochronref16_Right_l3 p18988) LL ((List.replicate (p18988.Nodes).toNat 0), 0)))))

/-! isochron/isochronref16.Port -/
def m_isochronref16_Port (p22772 : ApiTopo) (p22775 : Int) : R Bool :=
  sh ((decide (0 ≤ p22775)) && (decide (p22775 < (w64 (2 * (p22772.Links.length : Int)))))) fun (s22781 : Bool) =>
  (.ok s22781)

/-! isochron/isochronref16.From -/
def m_isochronref16_From (p22804 : ApiTopo) (p22807 : Int) : R Int :=
  bindR (idx p22804.Links (w64 (Int.tdiv p22807 2))) fun e22812 =>
  if (decide ((Int.tmod p22807 2) = 1)) then (.ok (e22812.B))
  else (.ok (e22812.A))

/-! isochron/isochronref16.To -/
def m_isochronref16_To (p22836 : ApiTopo) (p22839 : Int) : R Int :=
  bindR (idx p22836.Links (w64 (Int.tdiv p22839 2))) fun e22844 =>
  if (decide ((Int.tmod p22839 2) = 1)) then (.ok (e22844.A))
  else (.ok (e22844.B))

/-! isochron/isochronref21.Nodes -/
def m_isochronref21_Nodes_l1 (p22914 : ApiTopo) (p22917 : (List Int)) (rec22980 : ((List Int) × Int) → R (List Int)) (s22964 : (List Int) × Int) : R (List Int) :=
  if (decide (s22964.2 < (p22917.length : Int))) then (bindR (idx p22917 s22964.2) fun e22986 =>
  bindR (m_isochronref16_To p22914 e22986) fun e22989 =>
  bindR (must (okLen (s22964.1.length + ([e22989]).length))) fun _ =>
  rec22980 ((s22964.1 ++ ([e22989])), (w64 (s22964.2 + 1))))
  else (.ok (s22964.1))
def m_isochronref21_Nodes (p22914 : ApiTopo) (p22917 : (List Int)) : R (List Int) :=
  bindR (idx p22917 0) fun e22923 =>
  bindR (m_isochronref16_From p22914 e22923) fun e22926 =>
  loopM (m_isochronref21_Nodes_l1 p22914 p22917) LL ([e22926], 0)

/-! isochron/isochronref21.Right -/
def m_isochronref21_Right_l1 (e23742 : (List Int)) (p22754 : ApiTopo) (p22757 : (List Int)) (rec23912 : Int → R Bool) (s23849 : Int) : R Bool :=
  if (decide (s23849 < (e23742.length : Int))) then (bindR (must (decide (0 ≤ s23849 ∧ s23849 ≤ (e23742.length : Int)))) fun _ =>
  bindR (idx e23742 s23849) fun e23919 =>
  bindR (m_isochronref16_In ((e23742.take (s23849).toNat)) e23919) fun e23922 =>
  if e23922 then (.ok false)
  else (sh ((decide (0 < s23849)) && (decide (s23849 < (p22757.length : Int)))) fun (s23928 : Bool) =>
  (sh (fun (s23950 : Bool) => (if s23950 then (.ok false)
  else (rec23912 (w64 (s23849 + 1))))) fun j23954 =>
  (if s23928 then (bindR (idx e23742 s23849) fun e23957 =>
  bindR (idx p22754.Station e23957) fun e23960 =>
  if e23960 then (j23954 true)
  else (bindR (idx p22757 s23849) fun e23964 =>
  bindR (m_isochronref16_From p22754 e23964) fun e23967 =>
  bindR (idx e23742 s23849) fun e23971 =>
  j23954 (decide (e23967 ≠ e23971))))
  else (j23954 false)))))
  else (.ok true)
def m_isochronref21_Right_l2 (p22754 : ApiTopo) (p22757 : (List Int)) (rec23728 : Int → R Bool) (s23481 : Int) : R Bool :=
  if (decide (s23481 < (p22757.length : Int))) then (bindR (idx p22757 s23481) fun e23734 =>
  bindR (m_isochronref16_Port p22754 e23734) fun e23737 =>
  if (!e23737) then (.ok false)
  else (rec23728 (w64 (s23481 + 1))))
  else (bindR (m_isochronref21_Nodes p22754 p22757) fun e23742 =>
  loopM (m_isochronref21_Right_l1 e23742 p22754 p22757) LL 0)
def m_isochronref21_Right (p22754 : ApiTopo) (p22757 : (List Int)) : R Bool :=
  sh ((decide ((p22757.length : Int) < 1)) || (decide (8 < (p22757.length : Int)))) fun (s22764 : Bool) =>
  (if s22764 then (.ok false)
  else (loopM (m_isochronref21_Right_l2 p22754 p22757) LL 0))

/-! isochron/isochronlaw21.want -/
def m_isochronlaw21_want_l1 (p18979 : ApiTopo) (p18982 : (List (List Int))) (rec24011 : Int → R Int) (s23998 : Int) : R Int :=
  if (decide (s23998 < (p18982.length : Int))) then (bindR (idx p18982 s23998) fun e24017 =>
  bindR (m_isochronref21_Right p18979 e24017) fun e24021 =>
  if (!e24021) then (.ok 310)
  else (rec24011 (w64 (s23998 + 1))))
  else (.ok 0)
def m_isochronlaw21_want (p18979 : ApiTopo) (p18982 : (List (List Int))) : R Int :=
  bindR (m_isochronref16_Right p18979) fun e22741 =>
  if (!e22741) then (.ok 260)
  else (loopM (m_isochronlaw21_want_l1 p18979 p18982) LL 0)

/-! isochron/isochronref21.uses -/
def m_isochronref21_uses_l1 (p24060 : (List (List Int))) (p24062 : Int) (rec24102 : Int → R Bool) (s24089 : Int) : R Bool :=
  if (decide (s24089 < (p24060.length : Int))) then (bindR (idx p24060 s24089) fun e24108 =>
  bindR (m_isochronref16_In e24108 p24062) fun e24112 =>
  if e24112 then (.ok true)
  else (rec24102 (w64 (s24089 + 1))))
  else (.ok false)
def m_isochronref21_uses (p24060 : (List (List Int))) (p24062 : Int) : R Bool :=
  loopM (m_isochronref21_uses_l1 p24060 p24062) LL 0

/-! isochron/isochronref21.Ports -/
def m_isochronref21_Ports_l1 (p24208 : ApiTopo) (p24211 : (List (List Int))) (rec24289 : ((List Int) × Int) → R (List Int)) (s24266 : (List Int) × Int) : R (List Int) :=
  if (decide (s24266.2 < (w64 (2 * (p24208.Links.length : Int))))) then (bindR (m_isochronref21_uses p24211 (s24266.2)) fun e24295 =>
  sh (fun (s24303 : (List Int)) => (rec24289 (s24303, (w64 (s24266.2 + 1))))) fun j24307 =>
  (if e24295 then (bindR (must (okLen (s24266.1.length + ([s24266.2]).length))) fun _ =>
  j24307 (s24266.1 ++ ([s24266.2])))
  else (j24307 s24266.1)))
  else (.ok (s24266.1))
def m_isochronref21_Ports (p24208 : ApiTopo) (p24211 : (List (List Int))) : R (List Int) :=
  loopM (m_isochronref21_Ports_l1 p24208 p24211) LL ([], 0)

/-! isochron/isochronref21.Tree -/
def m_isochronref21_Tree_l1 (p24342 : ApiTopo) (rec25831 : ((List Int) × Int) → R Bool) (s25746 : (List Int) × Int) (rec25896 : ((List Int) × Int) → R Bool) (s25876 : (List Int) × Int) : R Bool :=
  if (decide (s25876.2 < s25746.2)) then (bindR (idx s25876.1 s25746.2) fun e25902 =>
  bindR (m_isochronref16_To p24342 e25902) fun e25905 =>
  bindR (idx s25876.1 s25876.2) fun e25909 =>
  bindR (m_isochronref16_To p24342 e25909) fun e25912 =>
  if (decide (e25905 = e25912)) then (.ok false)
  else (rec25896 (s25876.1, (w64 (s25876.2 + 1)))))
  else (rec25831 (s25876.1, (w64 (s25746.2 + 1))))
def m_isochronref21_Tree_l2 (p24342 : ApiTopo) (rec25831 : ((List Int) × Int) → R Bool) (s25746 : (List Int) × Int) : R Bool :=
  if (decide (s25746.2 < (s25746.1.length : Int))) then (loopM (m_isochronref21_Tree_l1 p24342 rec25831 s25746) LL (s25746.1, 0))
  else (.ok true)
def m_isochronref21_Tree_l3 (p24342 : ApiTopo) (p24345 : (List (List Int))) (rec25524 : Int → R Bool) (s25133 : Int) : R Bool :=
  if (decide (s25133 < (p24345.length : Int))) then (bindR (idx p24345 s25133) fun e25530 =>
  bindR (idx e25530 0) fun e25534 =>
  bindR (m_isochronref16_From p24342 e25534) fun e25537 =>
  bindR (idx p24345 0) fun e25541 =>
  bindR (idx e25541 0) fun e25545 =>
  bindR (m_isochronref16_From p24342 e25545) fun e25548 =>
  if (decide (e25537 ≠ e25548)) then (.ok false)
  else (rec25524 (w64 (s25133 + 1))))
  else (bindR (m_isochronref21_Ports p24342 p24345) fun e25553 =>
  loopM (m_isochronref21_Tree_l2 p24342) LL (e25553, 0))
def m_isochronref21_Tree (p24342 : ApiTopo) (p24345 : (List (List Int))) : R Bool :=
  loopM (m_isochronref21_Tree_l3 p24342 p24345) LL 0

/-! isochron/isochronlaw21.RouteTrees -/
def m_isochronlaw21_RouteTrees_l1 (e18921 : ApiTopo) (p4 : (List (List Int))) (rec26211 : ((List (List Int)) × Int) → R Bool) (s26083 : (List (List Int)) × Int) : R Bool :=
  if (decide (s26083.2 < ((p4.take ((min (p4.length : Int) 8)).toNat).length : Int))) then (bindR (idx (p4.take ((min (p4.length : Int) 8)).toNat) s26083.2) fun e26217 =>
  bindR (m_isochronlaw21_cut e26217) fun e26221 =>
  bindR (must (okLen (s26083.1.length + ([e26221]).length))) fun _ =>
  rec26211 ((s26083.1 ++ ([e26221])), (w64 (s26083.2 + 1))))
  else (bindR (m_route_Tree e18921 (s26083.1)) fun e26241 =>
  bindR (m_isochronlaw21_want e18921 (s26083.1)) fun e26250 =>
  if (decide (e26250 ≠ 0)) then (sh ((decide ((e26241.1.length : Int) = 0)) && (!e26241.2.1)) fun (s26256 : Bool) =>
  (sh (s26256 && (decide (e26241.2.2 = e26250))) fun (s26260 : Bool) =>
  (.ok s26260)))
  else (sh (fun (s26292 : Bool) => (sh (fun (s26303 : Bool) => (.ok s26303)) fun j26306 =>
  (if s26292 then (bindR (m_isochronref21_Tree e18921 (s26083.1)) fun e26309 =>
  j26306 (e26241.2.1 == e26309))
  else (j26306 false)))) fun j26313 =>
  (if (decide (e26241.2.2 = 0)) then (bindR (m_isochronref21_Ports e18921 (s26083.1)) fun e26316 =>
  bindR (m_slices_Equal_int_int (e26241.1) e26316) fun e26333 =>
  j26313 e26333)
  else (j26313 false))))
def m_isochronlaw21_RouteTrees (p1 : ApiTopo) (p4 : (List (List Int))) : R Bool :=
  bindR (m_isochronlaw21_wakes) fun e18876 =>
  if (!e18876) then (.ok false)
  else (bindR (m_isochronlaw21_few p1) fun e18921 =>
  bindR (must (decide (0 ≤ (min (p4.length : Int) 8) ∧ (min (p4.length : Int) 8) ≤ (p4.length : Int)))) fun _ =>
  loopM (m_isochronlaw21_RouteTrees_l1 e18921 p4) LL ([], 0))
end Go.AM
