/- Printed: functions of the given program as functions over plain data, and that the machine does what they say; no claim of its own; no condition. -/
import Derived.Test.YtlkddekecegfdaaGreatLfN
set_option maxRecDepth 100000
set_option maxHeartbeats 4000000
set_option linter.unusedVariables false
set_option linter.unusedSimpArgs false
namespace Go.AM
open Go

structure ApiLink where
  A : Int
  B : Int
  Per : Int
  Delay : Int
  deriving Inhabited
def eApiLink : Enc ApiLink := eMap (fun s => (s.A, s.B, s.Per, s.Delay, ())) (ePair (eInt .i64) (ePair (eInt .i64) (ePair (eInt .i64) (ePair (eInt .i64) eUnit))))
theorem eApiLink_el {φ : Fz} {cs : List Value} {x : ApiLink} (h : eApiLink.R φ cs x) : cs = [.int .i64 x.A, .int .i64 x.B, .int .i64 x.Per, .int .i64 x.Delay] := by
  obtain ⟨p1, r1, e1, g1, p2, r2, e2, g2, p3, r3, e3, g3, p4, r4, e4, g4, gl⟩ := h
  have gl : r4 = [] := gl
  have g1 : p1 = [.int .i64 x.A] := g1
  have g2 : p2 = [.int .i64 x.B] := g2
  have g3 : p3 = [.int .i64 x.Per] := g3
  have g4 : p4 = [.int .i64 x.Delay] := g4
  subst gl
  subst g1 g2 g3 g4
  subst e4
  subst e3
  subst e2
  subst e1
  exact rfl
structure ApiTopo where
  Nodes : Int
  Station : (List Bool)
  Links : (List ApiLink)
  deriving Inhabited
def eApiTopo : Enc ApiTopo := eMap (fun s => (s.Nodes, s.Station, s.Links, ())) (ePair (eInt .i64) (ePair (eSl eBool) (ePair (eSl eApiLink) eUnit)))
theorem eApiTopo_el {φ : Fz} {cs : List Value} {x : ApiTopo} (h : eApiTopo.R φ cs x) : ∃ a24563 n24563 c24563, ∃ a24564 n24564 c24564, cs = [.int .i64 x.Nodes, .slice a24563 n24563 c24563, .slice a24564 n24564 c24564] ∧ RSl eBool φ (.slice a24563 n24563 c24563) x.Station ∧ RSl eApiLink φ (.slice a24564 n24564 c24564) x.Links := by
  obtain ⟨p1, r1, e1, g1, p2, r2, e2, g2, p3, r3, e3, g3, gl⟩ := h
  have gl : r3 = [] := gl
  have g1 : p1 = [.int .i64 x.Nodes] := g1
  obtain ⟨a2, n2, c2, g2, R2⟩ := g2
  obtain ⟨a3, n3, c3, g3, R3⟩ := g3
  subst gl
  subst g1 g2 g3
  subst e3
  subst e2
  subst e1
  exact ⟨a2, n2, c2, a3, n3, c3, rfl, R2, R3⟩
structure TopoEnd where
  Link : ApiLink
  port : Int
  deriving Inhabited
def eTopoEnd : Enc TopoEnd := eMap (fun s => (s.Link, s.port, ())) (ePair eApiLink (ePair (eInt .i64) eUnit))
theorem eTopoEnd_el {φ : Fz} {cs : List Value} {x : TopoEnd} (h : eTopoEnd.R φ cs x) : cs = [.int .i64 x.Link.A, .int .i64 x.Link.B, .int .i64 x.Link.Per, .int .i64 x.Link.Delay, .int .i64 x.port] := by
  obtain ⟨p1, r1, e1, g1, p2, r2, e2, g2, gl⟩ := h
  have gl : r2 = [] := gl
  obtain g1 := eApiLink_el g1
  have g2 : p2 = [.int .i64 x.port] := g2
  subst gl
  subst g1 g2
  subst e2
  subst e1
  exact rfl
structure RouteWalk where
  Topo : ApiTopo
  deriving Inhabited
def eRouteWalk : Enc RouteWalk := eMap (fun s => (s.Topo, ())) (ePair eApiTopo eUnit)
theorem eRouteWalk_el {φ : Fz} {cs : List Value} {x : RouteWalk} (h : eRouteWalk.R φ cs x) : ∃ a24565 n24565 c24565, ∃ a24566 n24566 c24566, cs = [.int .i64 x.Topo.Nodes, .slice a24565 n24565 c24565, .slice a24566 n24566 c24566] ∧ RSl eBool φ (.slice a24565 n24565 c24565) x.Topo.Station ∧ RSl eApiLink φ (.slice a24566 n24566 c24566) x.Topo.Links := by
  obtain ⟨p1, r1, e1, g1, gl⟩ := h
  have gl : r1 = [] := gl
  obtain ⟨a1_0, n1_0, c1_0, a1_1, n1_1, c1_1, g1, R1_0, R1_1⟩ := eApiTopo_el g1
  subst gl
  subst g1
  subst e1
  exact ⟨a1_0, n1_0, c1_0, a1_1, n1_1, c1_1, rfl, R1_0, R1_1⟩


/-! isochron/isochronlaw21.line -/
def m_isochronlaw21_line : R ApiTopo :=
  .ok ((ApiTopo.mk 4 [true, false, false, true] [(ApiLink.mk 0 1 8 50), (ApiLink.mk 1 2 8 0), (ApiLink.mk 2 3 80 7)]))

/-! isochron/topo.isNode -/
def m_topo_isNode (p131 : ApiTopo) (p134 : Int) : R Bool :=
  sh ((decide (0 ≤ p134)) && (decide (p134 < p131.Nodes))) fun (s140 : Bool) =>
  (.ok s140)

/-! isochron/topo.validLink -/
def m_topo_validLink_l1 (e116 : ApiLink) (p104 : ApiTopo) (p107 : Int) (rec273 : Int → R Bool) (s245 : Int) : R Bool :=
  if (decide (s245 < ((p104.Links.take (p107).toNat).length : Int))) then (bindR (idx (p104.Links.take (p107).toNat) s245) fun e279 =>
  sh ((decide (e279.A = e116.A)) && (decide (e279.B = e116.B))) fun (s287 : Bool) =>
  (sh (s287 || ((decide (e279.A = e116.B)) && (decide (e279.B = e116.A)))) fun (s291 : Bool) =>
  (if s291 then (if (!(!(decide (0 ≤ s245)))) then (.ok false)
  else (.ok true))
  else (rec273 (w64 (s245 + 1))))))
  else (.ok true)
def m_topo_validLink (p104 : ApiTopo) (p107 : Int) : R Bool :=
  bindR (idx p104.Links p107) fun e116 =>
  bindR (m_topo_isNode p104 (e116.A)) fun e146 =>
  sh (fun (s156 : Bool) => (sh (s156 && (decide (e116.A ≠ e116.B))) fun (s160 : Bool) =>
  (if (!s160) then (.ok false)
  else (bindR (idx p104.Station e116.A) fun e164 =>
  sh (fun (s172 : Bool) => (if (!s172) then (.ok false)
  else (sh ((decide (1 ≤ e116.Per)) && (decide (e116.Per ≤ 1000))) fun (s177 : Bool) =>
  (sh (s177 && (decide (0 ≤ e116.Delay))) fun (s181 : Bool) =>
  (sh (s181 && (decide (e116.Delay ≤ 10000))) fun (s185 : Bool) =>
  (if (!s185) then (.ok false)
  else (bindR (must (decide (0 ≤ p107 ∧ p107 ≤ (p104.Links.length : Int)))) fun _ =>
  loopM (m_topo_validLink_l1 e116 p104 p107) LL 0))))))) fun j312 =>
  (if (!e164) then (j312 true)
  else (bindR (idx p104.Station e116.B) fun e315 =>
  j312 (!e315))))))) fun j321 =>
  (if e146 then (bindR (m_topo_isNode p104 (e116.B)) fun e324 =>
  j321 e324)
  else (j321 false))

/-! (isochron/topo.end).from -/
def m_topo_end_from (p394 : TopoEnd) : R Int :=
  if (decide ((Int.tmod p394.port 2) = 0)) then (.ok (p394.Link.A))
  else (.ok (p394.Link.B))

/-! isochron/topo.degree -/
def m_topo_degree_l1 (p342 : ApiTopo) (p345 : Int) (rec573 : (Int × Int) → R Int) (s508 : Int × Int) : R Int :=
  if (decide (s508.1 < (p342.Links.length : Int))) then (bindR (idx p342.Links s508.1) fun e579 =>
  bindR (m_topo_end_from ((TopoEnd.mk e579 (w64 (2 * s508.1))))) fun e597 =>
  sh (fun (s604 : Int) => (bindR (m_topo_end_from ((TopoEnd.mk e579 (w64 ((w64 (2 * s508.1)) + 1))))) fun e620 =>
  sh (fun (s627 : Int) => (rec573 ((w64 (s508.1 + 1)), s627))) fun j630 =>
  (if (decide (e620 = p345)) then (j630 (w64 (s604 + 1)))
  else (j630 s604)))) fun j607 =>
  (if (decide (e597 = p345)) then (j607 (w64 (s508.2 + 1)))
  else (j607 s508.2)))
  else (.ok (s508.2))
def m_topo_degree (p342 : ApiTopo) (p345 : Int) : R Int :=
  loopM (m_topo_degree_l1 p342 p345) LL (0, 0)

/-! (isochron/topo.end).to -/
def m_topo_end_to (p730 : TopoEnd) : R Int :=
  bindR (m_topo_end_from p730) fun e735 =>
  .ok ((w64 ((w64 (p730.Link.A + p730.Link.B)) - e735)))

/-! slices.Index[[]int,int] -/
def m_slices_Index_int_int_l1 (p742 : (List Int)) (p744 : Int) (rec769 : Int → R Int) (s761 : Int) : R Int :=
  if (decide (s761 < (p742.length : Int))) then (bindR (idx p742 s761) fun e775 =>
  if (decide (p744 = e775)) then (.ok s761)
  else (rec769 (w64 (s761 + 1))))
  else (.ok ((-1)))
def m_slices_Index_int_int (p742 : (List Int)) (p744 : Int) : R Int :=
  loopM (m_slices_Index_int_int_l1 p742 p744) LL 0

/-! slices.Contains[[]int,int] -/
def m_slices_Contains_int_int (p739 : (List Int)) (p741 : Int) : R Bool :=
  bindR (m_slices_Index_int_int p739 p741) fun e779 =>
  .ok ((decide (0 ≤ e779)))

/-! isochron/topo.reach -/
def m_topo_reach_l1 (p3336 : ApiTopo) (p3340 : (List Int)) (rec5305 : (List Bool) → R (List Bool)) (rec5795 : (Int × (List Bool)) → R (List Bool)) (s5637 : Int × (List Bool)) : R (List Bool) :=
  if (decide (s5637.1 < (p3336.Links.length : Int))) then (bindR (idx p3336.Links s5637.1) fun e5801 =>
  bindR (m_topo_end_from ((TopoEnd.mk e5801 (w64 (2 * s5637.1))))) fun e5819 =>
  bindR (idx s5637.2 e5819) fun e5823 =>
  sh (fun (s5835 : Bool) => (sh (fun (s5844 : Bool) => (if s5844 then (bindR (m_topo_end_to ((TopoEnd.mk e5801 (w64 (2 * s5637.1))))) fun e5848 =>
  bindR (idx s5637.2 e5848) fun e5852 =>
  rec5305 (s5637.2.set (e5848).toNat true))
  else (bindR (m_topo_end_from ((TopoEnd.mk e5801 (w64 ((w64 (2 * s5637.1)) + 1))))) fun e5873 =>
  bindR (idx s5637.2 e5873) fun e5877 =>
  sh (fun (s5889 : Bool) => (sh (fun (s5898 : Bool) => (if s5898 then (bindR (m_topo_end_to ((TopoEnd.mk e5801 (w64 ((w64 (2 * s5637.1)) + 1))))) fun e5902 =>
  bindR (idx s5637.2 e5902) fun e5906 =>
  rec5305 (s5637.2.set (e5902).toNat true))
  else (rec5795 ((w64 (s5637.1 + 1)), s5637.2)))) fun j5918 =>
  (if s5889 then (bindR (m_slices_Contains_int_int p3340 ((w64 (Int.tdiv (w64 ((w64 (2 * s5637.1)) + 1)) 2)))) fun e5921 =>
  j5918 (!e5921))
  else (j5918 false)))) fun j5925 =>
  (if e5877 then (bindR (m_topo_end_to ((TopoEnd.mk e5801 (w64 ((w64 (2 * s5637.1)) + 1))))) fun e5928 =>
  bindR (idx s5637.2 e5928) fun e5932 =>
  j5925 (!e5932))
  else (j5925 false))))) fun j5935 =>
  (if s5835 then (bindR (m_slices_Contains_int_int p3340 ((w64 (Int.tdiv (w64 (2 * s5637.1)) 2)))) fun e5938 =>
  j5935 (!e5938))
  else (j5935 false)))) fun j5942 =>
  (if e5823 then (bindR (m_topo_end_to ((TopoEnd.mk e5801 (w64 (2 * s5637.1))))) fun e5945 =>
  bindR (idx s5637.2 e5945) fun e5949 =>
  j5942 (!e5949))
  else (j5942 false)))
  else (.ok (s5637.2))
def m_topo_reach_l2 (p3336 : ApiTopo) (p3340 : (List Int)) (rec5305 : (List Bool) → R (List Bool)) (s4657 : (List Bool)) : R (List Bool) :=
  loopM (m_topo_reach_l1 p3336 p3340 rec5305) LL (0, s4657)
def m_topo_reach (p3336 : ApiTopo) (p3339 : Int) (p3340 : (List Int)) : R (List Bool) :=
  bindR (must (decide (0 ≤ p3336.Nodes ∧ p3336.Nodes ≤ 1000000000))) fun _ =>
  bindR (idx (List.replicate (p3336.Nodes).toNat false) p3339) fun e3358 =>
  loopM (m_topo_reach_l2 p3336 p3340) LL ((List.replicate (p3336.Nodes).toNat false).set (p3339).toNat true)

/-! slices.Index[[]bool,bool] -/
def m_slices_Index_bool_bool_l1 (p5968 : (List Bool)) (p5970 : Bool) (rec5995 : Int → R Int) (s5987 : Int) : R Int :=
  if (decide (s5987 < (p5968.length : Int))) then (bindR (idx p5968 s5987) fun e6001 =>
  if (p5970 == e6001) then (.ok s5987)
  else (rec5995 (w64 (s5987 + 1))))
  else (.ok ((-1)))
def m_slices_Index_bool_bool (p5968 : (List Bool)) (p5970 : Bool) : R Int :=
  loopM (m_slices_Index_bool_bool_l1 p5968 p5970) LL 0

/-! slices.Contains[[]bool,bool] -/
def m_slices_Contains_bool_bool (p5965 : (List Bool)) (p5967 : Bool) : R Bool :=
  bindR (m_slices_Index_bool_bool p5965 p5967) fun e6005 =>
  .ok ((decide (0 ≤ e6005)))

/-! isochron/topo.Check -/
def m_topo_Check_l1 (p80 : ApiTopo) (rec6781 : Int → R Int) (s6729 : Int) : R Int :=
  if (decide (s6729 < (p80.Station.length : Int))) then (bindR (idx p80.Station s6729) fun e6787 =>
  sh (fun (s6801 : Bool) => (if s6801 then (.ok 260)
  else (rec6781 (w64 (s6729 + 1))))) fun j6805 =>
  (if e6787 then (bindR (m_topo_degree p80 s6729) fun e6808 =>
  if (decide (e6808 < 1)) then (j6805 true)
  else (bindR (m_topo_degree p80 s6729) fun e6813 =>
  j6805 (decide (2 < e6813))))
  else (j6805 false)))
  else (bindR (m_topo_reach p80 0 ([])) fun e6817 =>
  bindR (m_slices_Contains_bool_bool e6817 false) fun e6830 =>
  if e6830 then (.ok 260)
  else (.ok 0))
def m_topo_Check_l2 (p80 : ApiTopo) (rec6614 : Int → R Int) (s6395 : Int) : R Int :=
  if (decide (s6395 < (p80.Links.length : Int))) then (bindR (m_topo_validLink p80 s6395) fun e6620 =>
  if (!e6620) then (.ok 260)
  else (rec6614 (w64 (s6395 + 1))))
  else (loopM (m_topo_Check_l1 p80) LL 0)
def m_topo_Check (p80 : ApiTopo) : R Int :=
  sh ((decide (p80.Nodes < 2)) || (decide (12 < p80.Nodes))) fun (s88 : Bool) =>
  (sh (s88 || (decide ((p80.Station.length : Int) ≠ p80.Nodes))) fun (s92 : Bool) =>
  (sh (s92 || (decide (24 < (p80.Links.length : Int)))) fun (s96 : Bool) =>
  (if s96 then (.ok 260)
  else (loopM (m_topo_Check_l2 p80) LL 0))))

/-! isochron/topo.From -/
def m_topo_From (p6968 : ApiTopo) (p6971 : Int) : R (Int × Int) :=
  bindR (m_topo_Check p6968) fun e6980 =>
  if (decide (e6980 ≠ 0)) then (.ok (0, e6980))
  else (sh ((decide (p6971 < 0)) || (decide ((w64 (2 * (p6968.Links.length : Int))) ≤ p6971))) fun (s6986 : Bool) =>
  (if s6986 then (.ok (0, 2))
  else (bindR (idx p6968.Links (w64 (Int.tdiv p6971 2))) fun e6990 =>
  bindR (m_topo_end_from ((TopoEnd.mk e6990 p6971))) fun e6993 =>
  .ok (e6993, 0))))

/-! (isochron/route.walk).from -/
def m_route_walk_from (p6960 : RouteWalk) (p6963 : Int) : R Int :=
  bindR (m_topo_From (p6960.Topo) p6963) fun e7000 =>
  .ok (e7000.1)

/-! isochron/topo.To -/
def m_topo_To (p7053 : ApiTopo) (p7056 : Int) : R (Int × Int) :=
  bindR (m_topo_Check p7053) fun e7065 =>
  if (decide (e7065 ≠ 0)) then (.ok (0, e7065))
  else (sh ((decide (p7056 < 0)) || (decide ((w64 (2 * (p7053.Links.length : Int))) ≤ p7056))) fun (s7071 : Bool) =>
  (if s7071 then (.ok (0, 2))
  else (bindR (idx p7053.Links (w64 (Int.tdiv p7056 2))) fun e7075 =>
  bindR (m_topo_end_to ((TopoEnd.mk e7075 p7056))) fun e7078 =>
  .ok (e7078, 0))))

/-! (isochron/route.walk).valid -/
def m_route_walk_valid_l1 (p6855 : RouteWalk) (p6858 : (List Int)) (rec7343 : (Int × (List Int)) → R Bool) (s7253 : Int × (List Int)) : R Bool :=
  if (decide (s7253.1 < (p6858.length : Int))) then (bindR (idx p6858 s7253.1) fun e7349 =>
  bindR (m_topo_To (p6855.Topo) e7349) fun e7356 =>
  bindR (m_slices_Contains_int_int (s7253.2) (e7356.1)) fun e7367 =>
  sh (fun (s7384 : Bool × (List Int)) => (sh (fun (s7395 : Bool) => (if s7395 then (.ok ((decide ((s7384.2.length : Int) = (w64 ((p6858.length : Int) + 1))))))
  else (bindR (must (okLen (s7384.2.length + ([e7356.1]).length))) fun _ =>
  rec7343 ((w64 (s7253.1 + 1)), (s7384.2 ++ ([e7356.1])))))) fun j7410 =>
  (if s7384.1 then (j7410 true)
  else (if (decide (0 < (s7253.2.length : Int))) then (if (decide ((s7253.2.length : Int) < (p6858.length : Int))) then (bindR (idx p6855.Topo.Station e7356.1) fun e7415 =>
  j7410 e7415)
  else (j7410 false))
  else (j7410 false))))) fun j7418 =>
  (if e7367 then (j7418 (true, s7253.2))
  else (if (decide (0 < (s7253.2.length : Int))) then (bindR (idx p6858 (w64 ((s7253.2.length : Int) - 1))) fun e7422 =>
  bindR (m_route_walk_from p6855 e7422) fun e7425 =>
  bindR (idx s7253.2 (w64 ((s7253.2.length : Int) - 1))) fun e7429 =>
  j7418 ((decide (e7425 ≠ e7429)), s7253.2))
  else (j7418 (false, s7253.2)))))
  else (.ok ((decide ((s7253.2.length : Int) = (w64 ((p6858.length : Int) + 1))))))
def m_route_walk_valid_l2 (j7440 : Bool → R Bool) (p6855 : RouteWalk) (p6858 : (List Int)) (rec7488 : Int → R Bool) (s7473 : Int) : R Bool :=
  if (decide (s7473 < (p6858.length : Int))) then (bindR (idx p6858 s7473) fun e7494 =>
  sh ((decide (e7494 < 0)) || (decide ((w64 (2 * (p6855.Topo.Links.length : Int))) ≤ e7494))) fun (s7498 : Bool) =>
  (if s7498 then (j7440 (decide (0 ≤ s7473)))
  else (rec7488 (w64 (s7473 + 1)))))
  else (j7440 false)
def m_route_walk_valid (p6855 : RouteWalk) (p6858 : (List Int)) : R Bool :=
  sh ((decide ((p6858.length : Int) < 1)) || (decide (8 < (p6858.length : Int)))) fun (s6869 : Bool) =>
  (sh (fun (s6936 : Bool) => (if s6936 then (.ok false)
  else (bindR (idx p6858 0) fun e7004 =>
  bindR (m_route_walk_from p6855 e7004) fun e7007 =>
  bindR (m_slices_Contains_int_int ([]) e7007) fun e7014 =>
  sh (fun (s7020 : Bool) => (sh (fun (s7025 : Bool) => (if s7025 then (.ok ((decide (0 = (w64 ((p6858.length : Int) + 1))))))
  else (bindR (must (okLen (([] : List Int).length + ([e7007]).length))) fun _ =>
  loopM (m_route_walk_valid_l1 p6855 p6858) LL (0, (([] : List Int) ++ ([e7007])))))) fun j7434 =>
  (if s7020 then (j7434 true)
  else (j7434 false)))) fun j7437 =>
  (if e7014 then (j7437 true)
  else (j7437 false))))) fun j7440 =>
  (if s6869 then (j7440 true)
  else (loopM (m_route_walk_valid_l2 j7440 p6855 p6858) LL 0)))

/-! isochron/route.Check -/
def m_route_Check (p71 : ApiTopo) (p74 : (List Int)) : R Int :=
  bindR (m_topo_Check p71) fun e6844 =>
  if (decide (e6844 ≠ 0)) then (.ok e6844)
  else (bindR (m_route_walk_valid ((RouteWalk.mk p71)) p74) fun e7508 =>
  if (!e7508) then (.ok 310)
  else (.ok 0))

/-! (isochron/route.walk).list -/
def m_route_walk_list_l1 (p7682 : RouteWalk) (p7685 : (List Int)) (rec7813 : (Int × (List Int)) → R (List Int)) (s7785 : Int × (List Int)) : R (List Int) :=
  if (decide (s7785.1 < (p7685.length : Int))) then (bindR (idx p7685 s7785.1) fun e7819 =>
  bindR (m_topo_To (p7682.Topo) e7819) fun e7826 =>
  bindR (must (okLen (s7785.2.length + ([e7826.1]).length))) fun _ =>
  rec7813 ((w64 (s7785.1 + 1)), (s7785.2 ++ ([e7826.1]))))
  else (.ok (s7785.2))
def m_route_walk_list (p7682 : RouteWalk) (p7685 : (List Int)) : R (List Int) :=
  bindR (idx p7685 0) fun e7711 =>
  bindR (m_route_walk_from p7682 e7711) fun e7714 =>
  bindR (must (okLen (([] : List Int).length + ([e7714]).length))) fun _ =>
  loopM (m_route_walk_list_l1 p7682 p7685) LL (0, (([] : List Int) ++ ([e7714])))

/-! isochron/route.Nodes -/
def m_route_Nodes (p7853 : ApiTopo) (p7856 : (List Int)) : R ((List Int) × Int) :=
  bindR (m_route_Check p7853 p7856) fun e7870 =>
  if (decide (e7870 ≠ 0)) then (.ok ([], e7870))
  else (bindR (m_route_walk_list ((RouteWalk.mk p7853)) p7856) fun e7879 =>
  .ok (e7879, 0))

/-! isochron/route.Ends -/
def m_route_Ends (p7913 : ApiTopo) (p7916 : (List Int)) : R (Int × Int × Int) :=
  bindR (m_route_Nodes p7913 p7916) fun e7922 =>
  if (decide (e7922.2 ≠ 0)) then (.ok (0, 0, e7922.2))
  else (bindR (idx e7922.1 0) fun e7932 =>
  bindR (idx e7922.1 (w64 ((e7922.1.length : Int) - 1))) fun e7935 =>
  .ok (e7932, e7935, 0))

/-! isochron/route.Delay$1 -/
def m_route_Delay_1 (p7992 : ApiLink) : R Int :=
  .ok (p7992.Delay)

/-! isochron/route.Delay -/
def m_route_Delay_l1 (p7948 : ApiTopo) (p7951 : (List Int)) (rec8029 : (Int × Int) → R (Int × Int)) (s8015 : Int × Int) : R (Int × Int) :=
  if (decide (s8015.2 < (p7951.length : Int))) then (bindR (idx p7951 s8015.2) fun e8035 =>
  bindR (idx p7948.Links (w64 (Int.tdiv e8035 2))) fun e8038 =>
  bindR (m_route_Delay_1 e8038) fun e8041 =>
  rec8029 ((w64 (s8015.1 + e8041)), (w64 (s8015.2 + 1))))
  else (.ok (s8015.1, 0))
def m_route_Delay (p7948 : ApiTopo) (p7951 : (List Int)) : R (Int × Int) :=
  bindR (m_route_Check p7948 p7951) fun e7973 =>
  if (decide (e7973 ≠ 0)) then (.ok (0, e7973))
  else (loopM (m_route_Delay_l1 p7948 p7951) LL (0, 0))

/-! isochron/route.Time -/
def m_route_Time_l1 (p8055 : ApiTopo) (p8058 : (List Int)) (p8060 : Int) (rec8146 : (Int × Int) → R (Int × Int)) (s8132 : Int × Int) : R (Int × Int) :=
  if (decide (s8132.2 < (p8058.length : Int))) then (bindR (idx p8058 s8132.2) fun e8152 =>
  bindR (idx p8055.Links (w64 (Int.tdiv e8152 2))) fun e8155 =>
  rec8146 ((w64 (s8132.1 + (w64 ((w64 (p8060 * e8155.Per)) + e8155.Delay)))), (w64 (s8132.2 + 1))))
  else (.ok (s8132.1, 0))
def m_route_Time (p8055 : ApiTopo) (p8058 : (List Int)) (p8060 : Int) : R (Int × Int) :=
  bindR (m_route_Check p8055 p8058) fun e8069 =>
  if (decide (e8069 ≠ 0)) then (.ok (0, e8069))
  else (sh ((decide (p8060 < 84)) || (decide (1542 < p8060))) fun (s8075 : Bool) =>
  (if s8075 then (.ok (0, 2))
  else (bindR (m_route_Check p8055 p8058) fun e8095 =>
  if (decide (e8095 ≠ 0)) then (.ok (0, e8095))
  else (loopM (m_route_Time_l1 p8055 p8058 p8060) LL (0, 0)))))

/-! isochron/route.Back -/
def m_route_Back_l1 (p8304 : (List Int)) (rec8406 : (Int × (List Int)) → R ((List Int) × Int)) (s8385 : Int × (List Int)) : R ((List Int) × Int) :=
  if (decide (0 ≤ s8385.1)) then (bindR (idx p8304 s8385.1) fun e8412 =>
  bindR (must (okLen (s8385.2.length + ([(bitXor .i64 e8412 1)]).length))) fun _ =>
  rec8406 ((w64 (s8385.1 - 1)), (s8385.2 ++ ([(bitXor .i64 e8412 1)]))))
  else (.ok (s8385.2, 0))
def m_route_Back (p8301 : ApiTopo) (p8304 : (List Int)) : R ((List Int) × Int) :=
  bindR (m_route_Check p8301 p8304) fun e8318 =>
  if (decide (e8318 ≠ 0)) then (.ok ([], e8318))
  else (loopM (m_route_Back_l1 p8304) LL ((w64 ((p8304.length : Int) - 1)), []))

/-! isochron/route.inner -/
def m_route_inner (p8532 : (List Int)) : R (List Int) :=
  bindR (must (decide (0 ≤ 1 ∧ 1 ≤ (w64 ((p8532.length : Int) - 1)) ∧ (w64 ((p8532.length : Int) - 1)) ≤ (w64 ((p8532.length : Int) - 1)) ∧ (w64 ((p8532.length : Int) - 1)) ≤ (p8532.length : Int) ∧ 0 < (p8532.length : Int) ∧ (p8532.length : Int) ≤ 1000000000))) fun _ =>
  .ok (((p8532.take ((w64 ((p8532.length : Int) - 1))).toNat).drop (1 : Int).toNat))

/-! isochron/route.meet -/
def m_route_meet_l1 (p8545 : (List Int)) (p8547 : (List Int)) (rec8589 : Int → R Bool) (s8577 : Int) : R Bool :=
  if (decide (s8577 < (p8545.length : Int))) then (bindR (idx p8545 s8577) fun e8595 =>
  bindR (m_slices_Contains_int_int p8547 e8595) fun e8598 =>
  if e8598 then (.ok ((decide (0 ≤ s8577))))
  else (rec8589 (w64 (s8577 + 1))))
  else (.ok false)
def m_route_meet (p8545 : (List Int)) (p8547 : (List Int)) : R Bool :=
  loopM (m_route_meet_l1 p8545 p8547) LL 0

/-! isochron/route.Apart -/
def m_route_Apart_l1 (e8461 : ((List Int) × Int)) (e8471 : ((List Int) × Int)) (e9535 : Int) (p8451 : (List Int)) (rec9529 : Int → R (Bool × Int)) (s9088 : Int) (rec9823 : Int → R (Bool × Int)) (s9729 : Int) : R (Bool × Int) :=
  if (decide (s9729 < (p8451.length : Int))) then (bindR (idx p8451 s9729) fun e9829 =>
  if (decide ((w64 (Int.tdiv e9535 2)) = (w64 (Int.tdiv e9829 2)))) then (if (decide (0 ≤ s9729)) then (sh (fun (s9853 : (List Int) × Bool) => (sh (fun (s9874 : Bool) => (.ok (s9874, 0))) fun j9879 =>
  (if s9853.2 then (bindR (m_route_inner (e8471.1)) fun e9886 =>
  bindR (m_route_meet e9886 (s9853.1)) fun e9891 =>
  j9879 (!e9891))
  else (j9879 false)))) fun j9895 =>
  (if (!(decide (0 ≤ s9088))) then (bindR (m_route_inner (e8461.1)) fun e9902 =>
  bindR (m_route_meet e9902 (e8471.1)) fun e9911 =>
  j9895 (e8461.1, (!e9911)))
  else (j9895 (e8461.1, false))))
  else (rec9529 (w64 (s9088 + 1))))
  else (rec9823 (w64 (s9729 + 1))))
  else (rec9529 (w64 (s9088 + 1)))
def m_route_Apart_l2 (e8461 : ((List Int) × Int)) (e8471 : ((List Int) × Int)) (p8449 : (List Int)) (p8451 : (List Int)) (rec9529 : Int → R (Bool × Int)) (s9088 : Int) : R (Bool × Int) :=
  if (decide (s9088 < (p8449.length : Int))) then (bindR (idx p8449 s9088) fun e9535 =>
  loopM (m_route_Apart_l1 e8461 e8471 e9535 p8451 rec9529 s9088) LL 0)
  else (bindR (m_route_inner (e8461.1)) fun e9923 =>
  bindR (m_route_meet e9923 (e8471.1)) fun e9932 =>
  sh (fun (s9951 : Bool) => (.ok (s9951, 0))) fun j9956 =>
  (if (!e9932) then (bindR (m_route_inner (e8471.1)) fun e9963 =>
  bindR (m_route_meet e9963 (e8461.1)) fun e9968 =>
  j9956 (!e9968))
  else (j9956 false)))
def m_route_Apart (p8446 : ApiTopo) (p8449 : (List Int)) (p8451 : (List Int)) : R (Bool × Int) :=
  bindR (m_route_Nodes p8446 p8449) fun e8461 =>
  if (decide (e8461.2 ≠ 0)) then (.ok (false, e8461.2))
  else (bindR (m_route_Nodes p8446 p8451) fun e8471 =>
  if (decide (e8471.2 ≠ 0)) then (.ok (false, e8471.2))
  else (loopM (m_route_Apart_l2 e8461 e8471 p8449 p8451) LL 0))

/-! isochron/route.Tree -/
def m_route_Tree_l1 (p14275 : ApiTopo) (p14278 : (List (List Int))) (s17999 : (List Int) × Bool × (List Int) × Int) (rec18486 : (Bool × Int) → R ((List Int) × Bool × Int)) (s18434 : Bool × Int) : R ((List Int) × Bool × Int) :=
  if (decide (s18434.2 < (p14278.length : Int))) then (bindR (idx p14278 s18434.2) fun e18492 =>
  sh (fun (s18516 : Bool) => (rec18486 (s18516, (w64 (s18434.2 + 1))))) fun j18519 =>
  (if s18434.1 then (bindR (idx e18492 0) fun e18522 =>
  bindR (m_route_walk_from ((RouteWalk.mk p14275)) e18522) fun e18525 =>
  bindR (idx p14278 0) fun e18529 =>
  bindR (idx e18529 0) fun e18533 =>
  bindR (m_route_walk_from ((RouteWalk.mk p14275)) e18533) fun e18536 =>
  j18519 (decide (e18525 = e18536)))
  else (j18519 false)))
  else (.ok (s17999.1, s18434.1, 0))
def m_route_Tree_l2 (e17503 : (List Int)) (p14275 : ApiTopo) (p14278 : (List (List Int))) (rec18270 : ((List Int) × Bool × (List Int) × Int) → R ((List Int) × Bool × Int)) (s17999 : (List Int) × Bool × (List Int) × Int) : R ((List Int) × Bool × Int) :=
  if (decide (s17999.2.2.2 < (e17503.length : Int))) then (bindR (idx s17999.1 s17999.2.2.2) fun e18276 =>
  sh (fun (s18297 : Bool) => (bindR (m_topo_To p14275 e18276) fun e18304 =>
  bindR (must (okLen (s17999.2.2.1.length + ([e18304.1]).length))) fun _ =>
  rec18270 (s17999.1, s18297, (s17999.2.2.1 ++ ([e18304.1])), (w64 (s17999.2.2.2 + 1))))) fun j18311 =>
  (if s17999.2.1 then (bindR (m_topo_To p14275 e18276) fun e18318 =>
  bindR (m_slices_Contains_int_int (s17999.2.2.1) (e18318.1)) fun e18326 =>
  j18311 (!e18326))
  else (j18311 false)))
  else (loopM (m_route_Tree_l1 p14275 p14278 s17999) LL (s17999.2.1, 0))
def m_route_Tree_l3 (p14275 : ApiTopo) (p14278 : (List (List Int))) (rec17479 : ((List Int) × Int) → R ((List Int) × Bool × Int)) (s16418 : (List Int) × Int) : R ((List Int) × Bool × Int) :=
  if (decide (s16418.2 < (p14278.length : Int))) then (bindR (idx p14278 s16418.2) fun e17485 =>
  bindR (m_route_walk_valid ((RouteWalk.mk p14275)) e17485) fun e17489 =>
  if (!e17489) then (.ok ([], false, 310))
  else (bindR (must (okLen (s16418.1.length + e17485.length))) fun _ =>
  rec17479 ((s16418.1 ++ e17485), (w64 (s16418.2 + 1)))))
  else (bindR (m_sort (s16418.1)) fun e17495 =>
  bindR (m_compact e17495) fun e17503 =>
  loopM (m_route_Tree_l2 e17503 p14275 p14278) LL (e17503, true, [], 0))
def m_route_Tree (p14275 : ApiTopo) (p14278 : (List (List Int))) : R ((List Int) × Bool × Int) :=
  bindR (m_topo_Check p14275) fun e14284 =>
  if (decide (e14284 ≠ 0)) then (.ok ([], false, e14284))
  else (loopM (m_route_Tree_l3 p14275 p14278) LL ([], 0))

/-! slices.Equal[[]int,int] -/
def m_slices_Equal_int_int_l1 (p18583 : (List Int)) (p18585 : (List Int)) (rec18621 : Int → R Bool) (s18610 : Int) : R Bool :=
  if (decide (s18610 < (p18583.length : Int))) then (bindR (idx p18583 s18610) fun e18627 =>
  bindR (idx p18585 s18610) fun e18630 =>
  if (decide (e18627 ≠ e18630)) then (.ok false)
  else (rec18621 (w64 (s18610 + 1))))
  else (.ok true)
def m_slices_Equal_int_int (p18583 : (List Int)) (p18585 : (List Int)) : R Bool :=
  if (decide ((p18583.length : Int) ≠ (p18585.length : Int))) then (.ok false)
  else (loopM (m_slices_Equal_int_int_l1 p18583 p18585) LL 0)

/-! slices.Equal[isochron/api.Route,int] -/
def m_slices_Equal_api_Route_int_l1 (p18669 : (List Int)) (p18671 : (List Int)) (rec18707 : Int → R Bool) (s18696 : Int) : R Bool :=
  if (decide (s18696 < (p18669.length : Int))) then (bindR (idx p18669 s18696) fun e18713 =>
  bindR (idx p18671 s18696) fun e18716 =>
  if (decide (e18713 ≠ e18716)) then (.ok false)
  else (rec18707 (w64 (s18696 + 1))))
  else (.ok true)
def m_slices_Equal_api_Route_int (p18669 : (List Int)) (p18671 : (List Int)) : R Bool :=
  if (decide ((p18669.length : Int) ≠ (p18671.length : Int))) then (.ok false)
  else (loopM (m_slices_Equal_api_Route_int_l1 p18669 p18671) LL 0)

/-! isochron/isochronlaw21.wakes -/
def m_isochronlaw21_wakes : R Bool :=
  bindR (m_isochronlaw21_line) fun e35 =>
  bindR (m_route_Nodes e35 ([0, 2, 4])) fun e7902 =>
  bindR (m_route_Ends e35 ([2, 4])) fun e7942 =>
  bindR (m_route_Delay e35 ([0, 2, 4])) fun e8049 =>
  bindR (m_route_Time e35 ([0, 2, 4]) 100) fun e8169 =>
  bindR (m_route_Back e35 ([0, 2, 4])) fun e8433 =>
  bindR (m_route_Apart e35 ([0]) ([2, 4])) fun e9980 =>
  bindR (m_route_Tree e35 ([[0, 2], [0, 2, 4]])) fun e18546 =>
  sh ((decide (e7902.2 = 0)) && (decide (e7942.2.2 = 0))) fun (s18556 : Bool) =>
  (sh (s18556 && (decide (e8049.2 = 0))) fun (s18560 : Bool) =>
  (sh (s18560 && (decide (e8169.2 = 0))) fun (s18564 : Bool) =>
  (sh (s18564 && (decide (e8433.2 = 0))) fun (s18568 : Bool) =>
  (sh (s18568 && (decide (e9980.2 = 0))) fun (s18572 : Bool) =>
  (sh (s18572 && (decide (e18546.2.2 = 0))) fun (s18576 : Bool) =>
  (sh (fun (s18646 : Bool) => (sh (s18646 && (decide (e7942.1 = 1))) fun (s18650 : Bool) =>
  (sh (s18650 && (decide (e7942.2.1 = 3))) fun (s18654 : Bool) =>
  (sh (s18654 && (decide (e8049.1 = 57))) fun (s18658 : Bool) =>
  (sh (s18658 && (decide (e8169.1 = 9657))) fun (s18662 : Bool) =>
  (sh (fun (s18732 : Bool) => (sh (s18732 && e9980.1) fun (s18736 : Bool) =>
  (sh (fun (s18755 : Bool) => (sh (s18755 && e18546.2.1) fun (s18759 : Bool) =>
  (sh (fun (s18774 : Bool) => (.ok s18774)) fun j18777 =>
  (if s18759 then (bindR (m_route_Check e35 ([0, 4])) fun e18786 =>
  j18777 (decide (e18786 = 310)))
  else (j18777 false))))) fun j18793 =>
  (if s18736 then (bindR (m_slices_Equal_int_int (e18546.1) ([0, 2, 4])) fun e18806 =>
  j18793 e18806)
  else (j18793 false))))) fun j18813 =>
  (if s18662 then (bindR (m_slices_Equal_api_Route_int (e8433.1) ([5, 3, 1])) fun e18826 =>
  j18813 e18826)
  else (j18813 false)))))))) fun j18842 =>
  (if s18576 then (bindR (m_slices_Equal_int_int (e7902.1) ([0, 1, 2, 3])) fun e18855 =>
  j18842 e18855)
  else (j18842 false))))))))

/-! isochron/isochronlaw21.few -/
def m_isochronlaw21_few (p18901 : ApiTopo) : R ApiTopo :=
  bindR (must (decide (0 ≤ (min (p18901.Station.length : Int) 20) ∧ (min (p18901.Station.length : Int) 20) ≤ (p18901.Station.length : Int)))) fun _ =>
  bindR (must (decide (0 ≤ (min (p18901.Links.length : Int) 30) ∧ (min (p18901.Links.length : Int) 30) ≤ (p18901.Links.length : Int)))) fun _ =>
  .ok ((ApiTopo.mk p18901.Nodes (p18901.Station.take ((min (p18901.Station.length : Int) 20)).toNat) (p18901.Links.take ((min (p18901.Links.length : Int) 30)).toNat)))

/-! isochron/isochronlaw21.cut -/
def m_isochronlaw21_cut (p18936 : (List Int)) : R (List Int) :=
  bindR (must (decide (0 ≤ (min (p18936.length : Int) 12) ∧ (min (p18936.length : Int) 12) ≤ (p18936.length : Int)))) fun _ =>
  bindR (must (okLen (([] : List Int).length + (p18936.take ((min (p18936.length : Int) 12)).toNat).length))) fun _ =>
  .ok ((([] : List Int) ++ (p18936.take ((min (p18936.length : Int) 12)).toNat)))

/-! isochron/isochronref16.node -/
def m_isochronref16_node (p19045 : ApiTopo) (p19048 : Int) : R Bool :=
  sh ((decide (0 ≤ p19048)) && (decide (p19048 < p19045.Nodes))) fun (s19054 : Bool) =>
  (.ok s19054)

/-! isochron/isochronref16.link -/
def m_isochronref16_link (p19033 : ApiTopo) (p19036 : ApiLink) : R Bool :=
  bindR (m_isochronref16_node p19033 (p19036.A)) fun e19060 =>
  sh (fun (s19070 : Bool) => (sh (s19070 || (decide (p19036.A = p19036.B))) fun (s19074 : Bool) =>
  (sh (fun (s19086 : Bool) => (if s19086 then (.ok false)
  else (sh ((decide (1 ≤ p19036.Per)) && (decide (p19036.Per ≤ 1000))) fun (s19091 : Bool) =>
  (sh (s19091 && (decide (0 ≤ p19036.Delay))) fun (s19095 : Bool) =>
  (sh (s19095 && (decide (p19036.Delay ≤ 10000))) fun (s19099 : Bool) =>
  (.ok s19099)))))) fun j19111 =>
  (if s19074 then (j19111 true)
  else (bindR (idx p19033.Station p19036.A) fun e19114 =>
  if e19114 then (bindR (idx p19033.Station p19036.B) fun e19118 =>
  j19111 e19118)
  else (j19111 false)))))) fun j19124 =>
  (if (!e19060) then (j19124 true)
  else (bindR (m_isochronref16_node p19033 (p19036.B)) fun e19127 =>
  j19124 (!e19127)))

/-! isochron/isochronref16.In -/
def m_isochronref16_In_l1 (p19236 : (List Int)) (p19238 : Int) (rec19263 : Int → R Bool) (s19255 : Int) : R Bool :=
  if (decide (s19255 < (p19236.length : Int))) then (bindR (idx p19236 s19255) fun e19269 =>
  if (decide (e19269 = p19238)) then (.ok true)
  else (rec19263 (w64 (s19255 + 1))))
  else (.ok false)
def m_isochronref16_In (p19236 : (List Int)) (p19238 : Int) : R Bool :=
  loopM (m_isochronref16_In_l1 p19236 p19238) LL 0

/-! isochron/isochronref16.Reach -/
def m_isochronref16_Reach_l1 (p20427 : ApiTopo) (p20431 : (List Int)) (rec21322 : ((List Bool) × Int) → R (List Bool)) (s21029 : (List Bool) × Int) (rec21543 : ((List Bool) × Int) → R (List Bool)) (s21471 : (List Bool) × Int) : R (List Bool) :=
  if (decide (s21471.2 < (p20427.Links.length : Int))) then (bindR (idx p20427.Links s21471.2) fun e21549 =>
  bindR (m_isochronref16_In p20431 (s21471.2)) fun e21558 =>
  sh (fun (s21571 : (List Bool) × Bool) => (sh (fun (s21588 : (List Bool)) => (rec21543 (s21588, (w64 (s21471.2 + 1))))) fun j21592 =>
  (if s21571.2 then (bindR (idx s21571.1 e21549.A) fun e21594 =>
  bindR (idx (s21571.1.set (e21549.A).toNat true) e21549.B) fun e21600 =>
  j21592 ((s21571.1.set (e21549.A).toNat true).set (e21549.B).toNat true))
  else (j21592 s21571.1)))) fun j21606 =>
  (if (!e21558) then (bindR (idx s21471.1 e21549.A) fun e21609 =>
  if e21609 then (j21606 (s21471.1, true))
  else (bindR (idx s21471.1 e21549.B) fun e21613 =>
  j21606 (s21471.1, e21613)))
  else (j21606 (s21471.1, false))))
  else (rec21322 (s21471.1, (w64 (s21029.2 + 1))))
def m_isochronref16_Reach_l2 (p20427 : ApiTopo) (p20431 : (List Int)) (rec21322 : ((List Bool) × Int) → R (List Bool)) (s21029 : (List Bool) × Int) : R (List Bool) :=
  if (decide (s21029.2 < p20427.Nodes)) then (loopM (m_isochronref16_Reach_l1 p20427 p20431 rec21322 s21029) LL (s21029.1, 0))
  else (.ok (s21029.1))
def m_isochronref16_Reach (p20427 : ApiTopo) (p20430 : Int) (p20431 : (List Int)) : R (List Bool) :=
  bindR (must (decide (0 ≤ p20427.Nodes ∧ p20427.Nodes ≤ 1000000000))) fun _ =>
  bindR (idx (List.replicate (p20427.Nodes).toNat false) p20430) fun e20439 =>
  loopM (m_isochronref16_Reach_l2 p20427 p20431) LL (((List.replicate (p20427.Nodes).toNat false).set (p20430).toNat true), 0)

/-! isochron/isochronref16.Joins -/
def m_isochronref16_Joins (p21806 : ApiLink) (p21807 : Int) (p21808 : Int) : R Bool :=
  sh ((decide (p21806.A = p21807)) && (decide (p21806.B = p21808))) fun (s21814 : Bool) =>
  (sh (s21814 || ((decide (p21806.A = p21808)) && (decide (p21806.B = p21807)))) fun (s21818 : Bool) =>
  (.ok s21818))

/-! isochron/isochronref16.Right -/
def m_isochronref16_Right_l1 (e22435 : ApiLink) (p18998 : ApiTopo) (rec22429 : ((List Int) × Int) → R Bool) (s22117 : (List Int) × Int) (rec22539 : Int → R Bool) (s22509 : Int) : R Bool :=
  if (decide (s22509 < s22117.2)) then (bindR (idx p18998.Links s22509) fun e22545 =>
  bindR (m_isochronref16_Joins e22545 (e22435.A) (e22435.B)) fun e22548 =>
  if e22548 then (.ok false)
  else (rec22539 (w64 (s22509 + 1))))
  else (bindR (idx s22117.1 e22435.A) fun e22553 =>
  bindR (idx s22117.1 e22435.A) fun e22556 =>
  bindR (idx (s22117.1.set (e22435.A).toNat (w64 (e22553 + 1))) e22435.B) fun e22562 =>
  bindR (idx (s22117.1.set (e22435.A).toNat (w64 (e22553 + 1))) e22435.B) fun e22565 =>
  rec22429 (((s22117.1.set (e22435.A).toNat (w64 (e22553 + 1))).set (e22435.B).toNat (w64 (e22562 + 1))), (w64 (s22117.2 + 1))))
def m_isochronref16_Right_l2 (p18998 : ApiTopo) (rec22701 : ((List Int) × (List Bool) × Int) → R Bool) (s22660 : (List Int) × (List Bool) × Int) : R Bool :=
  if (decide (s22660.2.2 < p18998.Nodes)) then (bindR (idx s22660.2.1 s22660.2.2) fun e22707 =>
  sh (fun (s22723 : (List Int) × Bool) => (if s22723.2 then (.ok false)
  else (rec22701 (s22723.1, s22660.2.1, (w64 (s22660.2.2 + 1)))))) fun j22728 =>
  (if (!e22707) then (j22728 (s22660.1, true))
  else (bindR (idx p18998.Station s22660.2.2) fun e22731 =>
  if e22731 then (bindR (idx s22660.1 s22660.2.2) fun e22735 =>
  if (decide (e22735 < 1)) then (j22728 (s22660.1, true))
  else (bindR (idx s22660.1 s22660.2.2) fun e22739 =>
  j22728 (s22660.1, (decide (2 < e22739)))))
  else (j22728 (s22660.1, false)))))
  else (.ok true)
def m_isochronref16_Right_l3 (p18998 : ApiTopo) (rec22429 : ((List Int) × Int) → R Bool) (s22117 : (List Int) × Int) : R Bool :=
  if (decide (s22117.2 < (p18998.Links.length : Int))) then (bindR (idx p18998.Links s22117.2) fun e22435 =>
  bindR (m_isochronref16_link p18998 e22435) fun e22444 =>
  if (!e22444) then (.ok false)
  else (loopM (m_isochronref16_Right_l1 e22435 p18998 rec22429 s22117) LL 0))
  else (bindR (m_isochronref16_Reach p18998 0 ([])) fun e22571 =>
  loopM (m_isochronref16_Right_l2 p18998) LL (s22117.1, e22571, 0))
def m_isochronref16_Right (p18998 : ApiTopo) : R Bool :=
  sh ((decide (p18998.Nodes < 2)) || (decide (12 < p18998.Nodes))) fun (s19006 : Bool) =>
  (sh (s19006 || (decide ((p18998.Station.length : Int) ≠ p18998.Nodes))) fun (s19010 : Bool) =>
  (sh (s19010 || (decide (24 < (p18998.Links.length : Int)))) fun (s19014 : Bool) =>
  (if s19014 then (.ok false)
  else (bindR (must (decide (0 ≤ p18998.Nodes ∧ p18998.Nodes ≤ 1000000000))) fun _ =>
  loopM (m_isochronref16_Right_l3 p18998) LL ((List.replicate (p18998.Nodes).toNat 0), 0)))))

/-! isochron/isochronref16.Port -/
def m_isochronref16_Port (p22782 : ApiTopo) (p22785 : Int) : R Bool :=
  sh ((decide (0 ≤ p22785)) && (decide (p22785 < (w64 (2 * (p22782.Links.length : Int)))))) fun (s22791 : Bool) =>
  (.ok s22791)

/-! isochron/isochronref16.From -/
def m_isochronref16_From (p22814 : ApiTopo) (p22817 : Int) : R Int :=
  bindR (idx p22814.Links (w64 (Int.tdiv p22817 2))) fun e22822 =>
  if (decide ((Int.tmod p22817 2) = 1)) then (.ok (e22822.B))
  else (.ok (e22822.A))

/-! isochron/isochronref16.To -/
def m_isochronref16_To (p22846 : ApiTopo) (p22849 : Int) : R Int :=
  bindR (idx p22846.Links (w64 (Int.tdiv p22849 2))) fun e22854 =>
  if (decide ((Int.tmod p22849 2) = 1)) then (.ok (e22854.A))
  else (.ok (e22854.B))

/-! isochron/isochronref21.Nodes -/
def m_isochronref21_Nodes_l1 (p22924 : ApiTopo) (p22927 : (List Int)) (rec22990 : ((List Int) × Int) → R (List Int)) (s22974 : (List Int) × Int) : R (List Int) :=
  if (decide (s22974.2 < (p22927.length : Int))) then (bindR (idx p22927 s22974.2) fun e22996 =>
  bindR (m_isochronref16_To p22924 e22996) fun e22999 =>
  bindR (must (okLen (s22974.1.length + ([e22999]).length))) fun _ =>
  rec22990 ((s22974.1 ++ ([e22999])), (w64 (s22974.2 + 1))))
  else (.ok (s22974.1))
def m_isochronref21_Nodes (p22924 : ApiTopo) (p22927 : (List Int)) : R (List Int) :=
  bindR (idx p22927 0) fun e22933 =>
  bindR (m_isochronref16_From p22924 e22933) fun e22936 =>
  loopM (m_isochronref21_Nodes_l1 p22924 p22927) LL ([e22936], 0)

/-! isochron/isochronref21.Right -/
def m_isochronref21_Right_l1 (e23752 : (List Int)) (p22764 : ApiTopo) (p22767 : (List Int)) (rec23922 : Int → R Bool) (s23859 : Int) : R Bool :=
  if (decide (s23859 < (e23752.length : Int))) then (bindR (must (decide (0 ≤ s23859 ∧ s23859 ≤ (e23752.length : Int)))) fun _ =>
  bindR (idx e23752 s23859) fun e23929 =>
  bindR (m_isochronref16_In ((e23752.take (s23859).toNat)) e23929) fun e23932 =>
  if e23932 then (.ok false)
  else (sh ((decide (0 < s23859)) && (decide (s23859 < (p22767.length : Int)))) fun (s23938 : Bool) =>
  (sh (fun (s23960 : Bool) => (if s23960 then (.ok false)
  else (rec23922 (w64 (s23859 + 1))))) fun j23964 =>
  (if s23938 then (bindR (idx e23752 s23859) fun e23967 =>
  bindR (idx p22764.Station e23967) fun e23970 =>
  if e23970 then (j23964 true)
  else (bindR (idx p22767 s23859) fun e23974 =>
  bindR (m_isochronref16_From p22764 e23974) fun e23977 =>
  bindR (idx e23752 s23859) fun e23981 =>
  j23964 (decide (e23977 ≠ e23981))))
  else (j23964 false)))))
  else (.ok true)
def m_isochronref21_Right_l2 (p22764 : ApiTopo) (p22767 : (List Int)) (rec23738 : Int → R Bool) (s23491 : Int) : R Bool :=
  if (decide (s23491 < (p22767.length : Int))) then (bindR (idx p22767 s23491) fun e23744 =>
  bindR (m_isochronref16_Port p22764 e23744) fun e23747 =>
  if (!e23747) then (.ok false)
  else (rec23738 (w64 (s23491 + 1))))
  else (bindR (m_isochronref21_Nodes p22764 p22767) fun e23752 =>
  loopM (m_isochronref21_Right_l1 e23752 p22764 p22767) LL 0)
def m_isochronref21_Right (p22764 : ApiTopo) (p22767 : (List Int)) : R Bool :=
  sh ((decide ((p22767.length : Int) < 1)) || (decide (8 < (p22767.length : Int)))) fun (s22774 : Bool) =>
  (if s22774 then (.ok false)
  else (loopM (m_isochronref21_Right_l2 p22764 p22767) LL 0))

/-! isochron/isochronlaw21.want -/
def m_isochronlaw21_want_l1 (p18989 : ApiTopo) (p18992 : (List (List Int))) (rec24021 : Int → R Int) (s24008 : Int) : R Int :=
  if (decide (s24008 < (p18992.length : Int))) then (bindR (idx p18992 s24008) fun e24027 =>
  bindR (m_isochronref21_Right p18989 e24027) fun e24031 =>
  if (!e24031) then (.ok 310)
  else (rec24021 (w64 (s24008 + 1))))
  else (.ok 0)
def m_isochronlaw21_want (p18989 : ApiTopo) (p18992 : (List (List Int))) : R Int :=
  bindR (m_isochronref16_Right p18989) fun e22751 =>
  if (!e22751) then (.ok 260)
  else (loopM (m_isochronlaw21_want_l1 p18989 p18992) LL 0)

/-! isochron/isochronref16.Delay -/
def m_isochronref16_Delay (p24162 : ApiTopo) (p24165 : Int) : R Int :=
  bindR (idx p24162.Links (w64 (Int.tdiv p24165 2))) fun e24170 =>
  .ok (e24170.Delay)

/-! isochron/isochronref21.Delay -/
def m_isochronref21_Delay_l1 (p24149 : ApiTopo) (p24152 : (List Int)) (rec24202 : (Int × Int) → R Int) (s24191 : Int × Int) : R Int :=
  if (decide (s24191.2 < (p24152.length : Int))) then (bindR (idx p24152 s24191.2) fun e24208 =>
  bindR (m_isochronref16_Delay p24149 e24208) fun e24211 =>
  rec24202 ((w64 (s24191.1 + e24211)), (w64 (s24191.2 + 1))))
  else (.ok (s24191.1))
def m_isochronref21_Delay (p24149 : ApiTopo) (p24152 : (List Int)) : R Int :=
  loopM (m_isochronref21_Delay_l1 p24149 p24152) LL (0, 0)

/-! isochron/isochronref16.Back -/
def m_isochronref16_Back (p24233 : Int) : R Int :=
  if (decide ((Int.tmod p24233 2) = 1)) then (.ok ((w64 (p24233 - 1))))
  else (.ok ((w64 (p24233 + 1))))

/-! isochron/isochronref21.Back -/
def m_isochronref21_Back_l1 (p24292 : (List Int)) (rec24342 : ((List Int) × Int) → R (List Int)) (s24326 : (List Int) × Int) : R (List Int) :=
  if (decide (0 ≤ s24326.2)) then (bindR (idx p24292 s24326.2) fun e24348 =>
  bindR (m_isochronref16_Back e24348) fun e24351 =>
  bindR (must (okLen (s24326.1.length + ([e24351]).length))) fun _ =>
  rec24342 ((s24326.1 ++ ([e24351])), (w64 (s24326.2 - 1))))
  else (.ok (s24326.1))
def m_isochronref21_Back (p24292 : (List Int)) : R (List Int) :=
  loopM (m_isochronref21_Back_l1 p24292) LL ([], (w64 ((p24292.length : Int) - 1)))

/-! isochron/isochronref16.Per -/
def m_isochronref16_Per (p24413 : ApiTopo) (p24416 : Int) : R Int :=
  bindR (idx p24413.Links (w64 (Int.tdiv p24416 2))) fun e24421 =>
  .ok (e24421.Per)

/-! isochron/isochronref21.Time -/
def m_isochronref21_Time_l1 (p24399 : ApiTopo) (p24402 : (List Int)) (p24404 : Int) (rec24474 : (Int × Int) → R Int) (s24456 : Int × Int) : R Int :=
  if (decide (s24456.2 < (p24402.length : Int))) then (bindR (idx p24402 s24456.2) fun e24480 =>
  bindR (m_isochronref16_Per p24399 e24480) fun e24483 =>
  bindR (idx p24402 s24456.2) fun e24487 =>
  bindR (m_isochronref16_Delay p24399 e24487) fun e24490 =>
  rec24474 ((w64 ((w64 (s24456.1 + (w64 (p24404 * e24483)))) + e24490)), (w64 (s24456.2 + 1))))
  else (.ok (s24456.1))
def m_isochronref21_Time (p24399 : ApiTopo) (p24402 : (List Int)) (p24404 : Int) : R Int :=
  loopM (m_isochronref21_Time_l1 p24399 p24402 p24404) LL (0, 0)

/-! isochron/isochronlaw21.RouteChecks -/
def m_isochronlaw21_RouteChecks (p1 : ApiTopo) (p4 : (List Int)) (p6 : Int) : R Bool :=
  bindR (m_isochronlaw21_wakes) fun e18877 =>
  if (!e18877) then (.ok false)
  else (bindR (m_isochronlaw21_few p1) fun e18922 =>
  bindR (m_isochronlaw21_cut p4) fun e18944 =>
  bindR (m_route_Nodes e18922 e18944) fun e18957 =>
  bindR (m_route_Ends e18922 e18944) fun e18966 =>
  bindR (m_route_Delay e18922 e18944) fun e18970 =>
  bindR (m_route_Time e18922 e18944 p6) fun e18974 =>
  bindR (m_route_Back e18922 e18944) fun e18978 =>
  bindR (m_isochronlaw21_want e18922 ([e18944])) fun e24040 =>
  bindR (m_route_Check e18922 e18944) fun e24044 =>
  sh ((decide (e24044 ≠ e24040)) || (decide (e18957.2 ≠ e24040))) fun (s24049 : Bool) =>
  (sh (s24049 || (decide (e18966.2.2 ≠ e24040))) fun (s24053 : Bool) =>
  (sh (s24053 || (decide (e18970.2 ≠ e24040))) fun (s24057 : Bool) =>
  (sh (s24057 || (decide (e18978.2 ≠ e24040))) fun (s24061 : Bool) =>
  (if s24061 then (.ok false)
  else (if (decide (e24040 ≠ 0)) then (sh ((decide (e18974.2 = e24040)) && (decide ((e18957.1.length : Int) = 0))) fun (s24067 : Bool) =>
  (sh (s24067 && (decide (e18966.1 = 0))) fun (s24071 : Bool) =>
  (sh (s24071 && (decide (e18966.2.1 = 0))) fun (s24075 : Bool) =>
  (sh (s24075 && (decide (e18970.1 = 0))) fun (s24079 : Bool) =>
  (sh (s24079 && (decide (e18974.1 = 0))) fun (s24083 : Bool) =>
  (sh (s24083 && (decide ((e18978.1.length : Int) = 0))) fun (s24087 : Bool) =>
  (.ok s24087)))))))
  else (bindR (m_isochronref21_Nodes e18922 e18944) fun e24108 =>
  bindR (m_slices_Equal_int_int (e18957.1) e24108) fun e24125 =>
  sh (fun (s24134 : (List Int) × Bool) => (sh (fun (s24143 : Bool × (List Int)) => (sh (fun (s24219 : Bool) => (sh (fun (s24381 : Bool) => (if s24381 then (.ok false)
  else (sh ((decide (p6 < 84)) || (decide (1542 < p6))) fun (s24388 : Bool) =>
  (if s24388 then (sh ((decide (e18974.1 = 0)) && (decide (e18974.2 = 2))) fun (s24393 : Bool) =>
  (.ok s24393))
  else (bindR (m_isochronref21_Time e18922 e18944 p6) fun e24494 =>
  sh ((decide (e18974.1 = e24494)) && (decide (e18974.2 = 0))) fun (s24499 : Bool) =>
  (.ok s24499)))))) fun j24508 =>
  (if s24219 then (j24508 true)
  else (bindR (m_isochronref21_Back e18944) fun e24511 =>
  bindR (m_slices_Equal_api_Route_int (e18978.1) e24511) fun e24528 =>
  j24508 (!e24528))))) fun j24532 =>
  (if s24143.1 then (j24532 true)
  else (bindR (m_isochronref21_Delay e18922 e18944) fun e24535 =>
  j24532 (decide (e18970.1 ≠ e24535)))))) fun j24539 =>
  (if s24134.2 then (j24539 (true, s24134.1))
  else (bindR (idx s24134.1 (w64 ((s24134.1.length : Int) - 1))) fun e24542 =>
  j24539 ((decide (e18966.2.1 ≠ e24542)), s24134.1))))) fun j24545 =>
  (if (!e24125) then (j24545 (e24108, true))
  else (bindR (idx e24108 0) fun e24548 =>
  j24545 (e24108, (decide (e18966.1 ≠ e24548))))))))))))
end Go.AM
